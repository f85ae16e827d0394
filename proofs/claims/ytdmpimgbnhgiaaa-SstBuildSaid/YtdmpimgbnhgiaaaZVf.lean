/- Walk: tables are built as the document says. -/
import Derived.Test.YtdmpimgbnhgiaaaZK
import Derived.Test.YtdmpimgbnhgiaaaZO
import Derived.Test.YtdmpimgbnhgiaaaZUi
import Derived.Test.YtdmpimgbnhgiaaaZUx
import Derived.BigQuiet

namespace Go.Proofs.Ytdmpimgbnhgiaaa
open Go.RowKit Go.St
set_option linter.unusedVariables false
set_option maxRecDepth 100000

theorem sty38 : STy Try.prog 33 26 1 24 (.slice none 0 0) := ⟨Try.underlying33, ⟨_, rfl, by kernel_rfl, by kernel_rfl, by kernel_rfl⟩, rfl, by decide⟩

theorem over_nil (w : World) : Calls Try.prog 48 #[.slice none 0 0] w fun e w' => e = .returned (.tuple #[]) ∧ w = w' := by
  go_enter Try.func48, Try.ntmps48
  go_wp2
  refine wp_loop_rounds 1 ?_
  rw [rounds_succ]
  go_wp2
  refine wp_loop_rounds 1 ?_
  rw [rounds_succ]
  go_wp2
  go_returns
  exact ⟨rfl, rfl⟩

theorem over_own (A : Option Addr) (n c base : Nat) (bs : List UInt8) (hl : bs.length = n) (w : World) (hown : w.ownsRow base 5 1 (.slice A n c) n (bv bs)) :
    Calls Try.prog 48 #[.slice A n c] w fun e w' => e = .returned (.tuple #[]) ∧ w'.ownsRow base 5 1 (.slice A n c) n (bv (bs.map (~~~ ·))) ∧ w.grownBy w' (Value.slice A n c).ownBlock := by
  rcases hown.2 with ⟨h1, h2⟩ | ⟨g, cap, cur, h1, _, _, h3, h4, _⟩
  · injection h1 with e1 e2 e3
    subst e1 e2 e3
    have : bs = [] := List.eq_nil_of_length_eq_zero hl
    subst this
    exact (over_nil w).mono fun e w' ⟨he, hw⟩ => ⟨he, by subst hw; exact ⟨World.ownsRow_nil w base 5 1, World.grownBy.refl w _⟩⟩
  · injection h1 with e1 e2 e3
    subst e1 e3
    exact over_any g n c base bs hl w h4 h3 hown

theorem rd_block {w w' : World} {B : Nat} {A : Option Addr} {xs : List Value} (h : Rd w B A xs) (hk : ∀ b o, A = some ⟨b, o, none⟩ → w'.heap[b]? = w.heap[b]?) : Rd w' B A xs := fun hn => by
  obtain ⟨b, o, e, hb, hc⟩ := h hn
  exact ⟨b, o, e, hb, fun i v hv => (World.cell?_of_block (a := ⟨b, o + i, none⟩) (hk b o e)).trans (hc i v hv)⟩

theorem below_dn' {B : Nat} {a w : World} (h : Below B a w) (n : Nat) : Below B a (w.drewN n) := ⟨h.os, h.tape, h.output, h.size, h.block⟩
theorem bt_not' (x : UInt8) : (((255 - x.toNat : Nat) : Int) != bits .xor .u8 IntKind.u8.max ((x.toNat : Nat) : Int)) = false := by
  rw [not8n]
  simp

set_option maxHeartbeats 4000000 in
theorem apart_any (A : Option Addr) (k c B base : Nat) (vs : List Value) (bss : List (List UInt8)) (hk1 : vs.length = k) (hk2 : bss.length = k) (hk3 : k ≤ 1000000) (w : World) (hr : Rd w B A vs) (hB : B ≤ w.heap.size) (hbase : base ≤ w.heap.size)
    (ho : ∀ (i : Nat) (v : Value) (bs : List UInt8), vs[i]? = some v → bss[i]? = some bs → w.ownsRow base 5 1 v bs.length (bv bs))
    (hd : ∀ (i j : Nat) (v v' : Value), i ≠ j → vs[i]? = some v → vs[j]? = some v' → v.ownBlock = none ∨ v.ownBlock ≠ v'.ownBlock)
    (ha : ∀ g o, A = some ⟨g, o, none⟩ → ∀ (i : Nat) (v : Value), vs[i]? = some v → v.ownBlock ≠ some g)
    (hs : ∀ (i : Nat) (bs : List UInt8), bss[i]? = some bs → bs.length ≤ 140737488355328) :
    Calls Try.prog 15 #[.slice A k c] w fun e w' => e = .returned (.bool true) ∧ Below base w w' := by
  have HR := Lib.hid hr; clear hr
  have HO := Lib.hid ho; clear ho
  have HD := Lib.hid hd; clear hd
  have HA := Lib.hid ha; clear ha
  have HS := Lib.hid hs; clear hs
  have hdb : ∀ (i : Nat) (v : Value), vs[i]? = some v → ∀ g, v.ownBlock = some g → g < w.heap.size := fun i v hv g hg => by
    have hi := (List.getElem?_eq_some_iff.1 hv).1
    exact ((HO.out i v _ hv (List.getElem?_eq_getElem (by omega))).lt g hg).2
  have HDB := Lib.hid hdb; clear hdb
  have K1 := Lib.hid hk1; clear hk1
  have K2 := Lib.hid hk2; clear hk2
  obtain ⟨w1, hmk, own1, gr1⟩ := run_mk sty38 w w.heap.size k (by omega) (by unfold maxLen; omega) (Nat.le_refl _)
  have hb1 : Below w.heap.size w w1 := (Below.refl _ _).grown gr1 (Nat.le_refl _) (by simp)
  have O1 : Hid (w1.ownsRow w.heap.size 26 1 (.slice (some ⟨w.heap.size, 0, none⟩) k k) k ([] ++ List.replicate (k - 0) (.slice none 0 0))) := by
    have e : (madeCells (Value.cells (.slice none 0 0)) (k * 1)).toList = [] ++ List.replicate (k - 0) (.slice none 0 0) := by
      rw [Nat.mul_one]
      show (madeCells #[.slice none 0 0] k).toList = _
      rw [toList_madeCells_one]
      simp
    rw [← e]
    exact own1
  have hz1 : w.heap.size + 1 ≤ w1.heap.size := (own1.lt _ rfl).2
  clear own1 gr1
  go_enter Try.func15, Try.ntmps15
  go_wp2
  clear hmk
  go_loopw [4] (fun i wr => ∃ q : Nat, ∃ ws : List Value, q ≤ k ∧ i = .int .i64 q ∧ ws.length = q ∧ wr.ownsRow w.heap.size 26 1 (.slice (some ⟨w.heap.size, 0, none⟩) k k) k (ws ++ List.replicate (k - q) (.slice none 0 0)) ∧
      (∀ (j : Nat) (u : Value) (bs : List UInt8), ws[j]? = some u → bss[j]? = some bs → wr.ownsRow (w.heap.size + 1) 5 1 u bs.length (bv bs)) ∧ Below w.heap.size w wr ∧ w.heap.size + 1 ≤ wr.heap.size) (fun i _ => k - (intOf i).toNat)
  case atStart => exact ⟨0, [], Nat.zero_le _, rfl, rfl, O1.out, by simp, hb1, hz1⟩
  case round =>
    obtain ⟨q, ws, hq, rfl, hwl, hown, hws, hbw, hz⟩ := hrel
    clear O1 hb1 hz1
    have OW := Lib.hid hown; clear hown
    have WL := Lib.hid hwl; clear hwl
    have WS := Lib.hid hws; clear hws
    by_cases hlt : q < k
    · obtain ⟨v, hv⟩ : ∃ v, vs[q]? = some v := ⟨_, List.getElem?_eq_getElem (by rw [K1.out]; exact hlt)⟩
      obtain ⟨bs, hbs⟩ : ∃ bs, bss[q]? = some bs := ⟨_, List.getElem?_eq_getElem (by rw [K2.out]; exact hlt)⟩
      have ow := own_keep (HO.out q v bs hv hbs) hbw (Nat.le_refl _)
      obtain ⟨Ai, ci, rfl, hnc, hcm, ri⟩ := own_rd4 ow
      have RI := Lib.hid ri; clear ri ow
      obtain ⟨gl, ol, rfl, hgl, hcl⟩ := (HR.out.below (hbw.mono hB)).at_ hv
      have hsz := HS.out q bs hbs
      have HV := Lib.hid hv; clear hv
      have HBS := Lib.hid hbs; clear hbs
      have i1 : (q : Int) < (k : Int) := by omega
      go_wp2_with fail
      refine (copy_any Ai bs.length ci _ bs rfl hsz _ RI.out (Nat.le_refl _)).mono ?_
      rintro e w3 ⟨u, rfl, own3, hb3, _⟩
      obtain ⟨Au, cu, rfl, _, _, _⟩ := own_rd4 own3
      have O3 := own_keep OW.out hb3 (Nat.le_refl _)
      have hcx := O3.cellAt q (by omega)
      have hget : (ws ++ List.replicate (k - q) (Value.slice none 0 0))[q]? = some (.slice none 0 0) := by
        rw [List.getElem?_append_right (by rw [WL.out]; exact Nat.le_refl _), WL.out, Nat.sub_self, List.getElem?_replicate, if_pos (by omega)]
      rw [hget] at hcx
      have hfx := O3.frozenAt q
      have o4 := (O3.stored q (.slice Au bs.length cu)).1
      have hset : (ws ++ List.replicate (k - q) (Value.slice none 0 0)).set q (.slice Au bs.length cu) = (ws ++ [.slice Au bs.length cu]) ++ List.replicate (k - (q + 1)) (.slice none 0 0) := by
        rw [List.set_append_right _ _ (by rw [WL.out]; exact Nat.le_refl _), WL.out, Nat.sub_self, show k - q = (k - (q + 1)) + 1 by omega, List.replicate_succ, List.set_cons_zero]
        simp
      rw [hset] at o4
      have O4 := Lib.hid o4; clear o4 hset hget
      have own4 := own3.mono (base' := w.heap.size + 1) hz
      have W4 : Hid (∀ (j : Nat) (u : Value) (b : List UInt8), (ws ++ [Value.slice Au bs.length cu])[j]? = some u → bss[j]? = some b → (w3.setCell ⟨w.heap.size, q, none⟩ (.slice Au bs.length cu)).ownsRow (w.heap.size + 1) 5 1 u b.length (bv b)) := by
        intro j u b hu hb
        rcases Nat.lt_or_ge j q with h1 | h1
        · rw [List.getElem?_append_left (by rw [WL.out]; exact h1)] at hu
          have h2 := own_keep (WS.out j u b hu hb) hb3 (Nat.le_refl _)
          exact ownsRow_setCell_other h2 (fun e => by have := (h2.lt _ e).1; simp at this; omega) _
        · rw [List.getElem?_append_right (by rw [WL.out]; exact h1), WL.out] at hu
          have hj : j = q := by
            have := (List.getElem?_eq_some_iff.1 hu).1
            simp at this
            omega
          subst hj
          rw [Nat.sub_self] at hu
          simp at hu
          subst hu
          have e1 : bs = b := by have := HBS.out; rw [this] at hb; exact Option.some.inj hb
          subst e1
          exact ownsRow_setCell_other own4 (fun e => by have := (own4.lt _ e).1; simp at this; omega) _
      have hb5 : Below w.heap.size w (w3.setCell ⟨w.heap.size, q, none⟩ (.slice Au bs.length cu)) := (hbw.trans (hb3.mono hbw.size)).setCell (p := ⟨w.heap.size, q, none⟩) (Nat.le_refl _) _
      have hz5 : w.heap.size + 1 ≤ (w3.setCell ⟨w.heap.size, q, none⟩ (.slice Au bs.length cu)).heap.size := by have := hb3.size; simp; omega
      clear O3 own3 own4 hb3
      go_wp2
      exact ⟨⟨q + 1, _, by omega, by go_num, by rw [List.length_append, WL.out]; rfl, O4.out, W4.out, hb5, hz5⟩, by simp [intOf]; omega⟩
    · obtain rfl : q = k := by omega
      have o2 : wr.ownsRow w.heap.size 26 1 (.slice (some ⟨w.heap.size, 0, none⟩) q q) q ws := by
        have := OW.out
        rw [Nat.sub_self, List.replicate_zero, List.append_nil] at this
        exact this
      have OV : Hid (∀ (i : Nat) (v : Value) (bs : List UInt8), vs[i]? = some v → bss[i]? = some bs → wr.ownsRow base 5 1 v bs.length (bv (if i < 0 then bs.map (~~~ ·) else bs))) := fun i v bs hv hbs => by
        rw [if_neg (by omega)]
        exact own_keep (HO.out i v bs hv hbs) hbw (Nat.le_refl _)
      have R1 := HR.out.below (hbw.mono hB)
      have hbb : Below base w wr := hbw.mono hbase
      have O2 := Lib.hid o2; clear o2 OW
      have hwlk : ws.length = q := WL.out
      clear HO HR hbw
      have R1' := Lib.hid R1; clear R1
      go_wp2
      go_loopw [5] (fun i wq => ∃ p : Nat, p ≤ q ∧ i = .int .i64 p ∧ wq.ownsRow w.heap.size 26 1 (.slice (some ⟨w.heap.size, 0, none⟩) q q) q ws ∧
          (∀ (j : Nat) (u : Value) (bs : List UInt8), ws[j]? = some u → bss[j]? = some bs → wq.ownsRow (w.heap.size + 1) 5 1 u bs.length (bv bs)) ∧
          (∀ (i : Nat) (v : Value) (bs : List UInt8), vs[i]? = some v → bss[i]? = some bs → wq.ownsRow base 5 1 v bs.length (bv (if i < p then bs.map (~~~ ·) else bs))) ∧
          Rd wq B A vs ∧ Below base w wq ∧ w.heap.size + 1 ≤ wq.heap.size) (fun i _ => q - (intOf i).toNat)
      case atStart => exact ⟨0, Nat.zero_le _, rfl, O2.out, WS.out, OV.out, R1'.out, hbb, hz⟩
      case round =>
        obtain ⟨p, hp, rfl, hown, hws, hvs, hrd, hbq, hzq⟩ := hrel
        clear O2 WS OV R1' hbb hz
        have O2 := Lib.hid hown; clear hown
        have WS := Lib.hid hws; clear hws
        have OV := Lib.hid hvs; clear hvs
        have RQ := Lib.hid hrd; clear hrd
        by_cases hltp : p < q
        · obtain ⟨v, hv⟩ : ∃ v, vs[p]? = some v := ⟨_, List.getElem?_eq_getElem (by rw [K1.out]; exact hltp)⟩
          obtain ⟨bs, hbs⟩ : ∃ bs, bss[p]? = some bs := ⟨_, List.getElem?_eq_getElem (by rw [K2.out]; exact hltp)⟩
          obtain ⟨u, hu⟩ : ∃ u, ws[p]? = some u := ⟨_, List.getElem?_eq_getElem (by omega)⟩
          have ov := OV.out p v bs hv hbs
          rw [if_neg (by omega)] at ov
          have ou := WS.out p u bs hu hbs
          obtain ⟨Ai, ci, rfl, hnc, hcm, ri⟩ := own_rd4 ov
          obtain ⟨Au, cu, rfl, hncu, hcmu, ru⟩ := own_rd4 ou
          have RI := Lib.hid ri; clear ri
          have RU := Lib.hid ru; clear ru
          obtain ⟨gl, ol, rfl, hgl, hcl⟩ := RQ.out.at_ hv
          have hcu := O2.out.cellAt p (by omega)
          rw [hu] at hcu
          have hsz := HS.out p bs hbs
          have vlt : ∀ g, (Value.slice Ai bs.length ci).ownBlock = some g → g < w.heap.size := fun g hg => by
            have := HDB.out p _ hv g hg
            exact this
          have VLT := Lib.hid vlt; clear vlt
          have OVp := Lib.hid ov; clear ov ou
          have HV := Lib.hid hv; clear hv
          have HBS := Lib.hid hbs; clear hbs
          have HU := Lib.hid hu; clear hu
          have i1 : (p : Int) < (q : Int) := by omega
          have i0 : (0 : Int) ≤ (p : Int) := by omega
          go_wp2
          go_quiet ((go_at_call 13; exact Calls.quiet_of (same_any Ai Au bs.length bs.length ci cu _ _ bs bs rfl rfl (by omega) _ (by exact RI.out) (by exact RU.out))))
          go_wp2_with fail
          refine (over_own Ai bs.length ci base bs rfl _ (show (wr.drewN nq).ownsRow base 5 1 _ _ _ from OVp.out)).mono ?_
          rintro e w5 ⟨rfl, own5, gr5⟩
          have g5 : wr.grownBy w5 (Value.slice Ai bs.length ci).ownBlock := ⟨gr5.os, gr5.tape, gr5.output, gr5.size, gr5.block⟩
          have n1 : (Value.slice (some ⟨w.heap.size, 0, none⟩) q q).ownBlock ≠ (Value.slice Ai bs.length ci).ownBlock := fun e => by
            have := VLT.out w.heap.size (by rw [← e]; rfl)
            omega
          have o5 := O2.out.kept g5 (.inr n1)
          have W5 : ∀ (j : Nat) (u : Value) (b : List UInt8), ws[j]? = some u → bss[j]? = some b → w5.ownsRow (w.heap.size + 1) 5 1 u b.length (bv b) := fun j u b h1 h2 => by
            have h3 := WS.out j u b h1 h2
            refine h3.kept g5 ?_
            cases hub : u.ownBlock with
            | none => exact .inl rfl
            | some g =>
              refine .inr (fun e => ?_)
              have h4 := (h3.lt g hub).1
              have h5 := VLT.out g e.symm
              omega
          have V5 : ∀ (i : Nat) (v : Value) (b : List UInt8), vs[i]? = some v → bss[i]? = some b → w5.ownsRow base 5 1 v b.length (bv (if i < p + 1 then b.map (~~~ ·) else b)) := fun i v b h1 h2 => by
            by_cases hip : i = p
            · subst hip
              have e1 : v = Value.slice Ai bs.length ci := by have := HV.out; rw [this] at h1; exact (Option.some.inj h1).symm
              have e2 : b = bs := by have := HBS.out; rw [this] at h2; exact (Option.some.inj h2).symm
              subst e1
              subst e2
              rw [if_pos (by omega)]
              exact own5
            · have h3 := OV.out i v b h1 h2
              have e3 : (if i < p + 1 then b.map (~~~ ·) else b) = (if i < p then b.map (~~~ ·) else b) := by
                by_cases hlt2 : i < p
                · rw [if_pos hlt2, if_pos (by omega)]
                · rw [if_neg hlt2, if_neg (by omega)]
              rw [e3]
              exact h3.kept g5 (HD.out i p v _ hip h1 HV.out)
          have R5 : Rd w5 B (some ⟨gl, ol, none⟩) vs := rd_block RQ.out (fun b o hA => by
            refine g5.block b ?_ ?_
            · injection hA with hA
              injection hA with e1 e2
              have := hbq.size
              omega
            · exact fun e => HA.out b o hA p _ HV.out e.symm)
          have hb5 : Below base w w5 := hbq.grown g5 (by have := hbq.size; omega) (fun g hg => (OVp.out.lt g hg).1)
          have hz5 : w.heap.size + 1 ≤ w5.heap.size := Nat.le_trans hzq g5.size
          clear gr5 n1
          go_wp2
          exact ⟨⟨p + 1, by omega, by go_num, o5, W5, V5, R5, hb5, hz5⟩, by simp [intOf]; omega⟩
        · obtain rfl : p = q := by omega
          go_wp2
          go_loopw [6] (fun i wx => ∃ j z : Nat, j ≤ p ∧ i = .int .i64 j ∧ wx = wr.drewN z) (fun i _ => p - (intOf i).toNat)
          case atStart => exact ⟨0, 0, Nat.zero_le _, rfl, rfl⟩
          case round =>
            obtain ⟨j, z, hj, rfl, rfl⟩ := hrel
            by_cases hltj : j < p
            · obtain ⟨v, hv⟩ : ∃ v, vs[j]? = some v := ⟨_, List.getElem?_eq_getElem (by rw [K1.out]; exact hltj)⟩
              obtain ⟨bs, hbs⟩ : ∃ bs, bss[j]? = some bs := ⟨_, List.getElem?_eq_getElem (by rw [K2.out]; exact hltj)⟩
              obtain ⟨u, hu⟩ : ∃ u, ws[j]? = some u := ⟨_, List.getElem?_eq_getElem (by omega)⟩
              have ov := OV.out j v bs hv hbs
              rw [if_pos hltj] at ov
              have ou := WS.out j u bs hu hbs
              obtain ⟨Ai, ci, rfl, hnc, hcm, ri⟩ := own_rd4 ov
              obtain ⟨Au, cu, rfl, hncu, hcmu, ru⟩ := own_rd4 ou
              have RI := Lib.hid ri; clear ri
              have RU := Lib.hid ru; clear ru
              obtain ⟨gl, ol, rfl, hgl, hcl⟩ := RQ.out.at_ hv
              have hcu := O2.out.cellAt j (by omega)
              rw [hu] at hcu
              have hsz := HS.out j bs hbs
              clear ov ou hv hu hbs
              have i1 : (j : Int) < (p : Int) := by omega
              have i0 : (0 : Int) ≤ (j : Int) := by omega
              go_wp2
              go_loopw [7] (fun i wy => ∃ m z' : Nat, m ≤ bs.length ∧ i = .int .i64 m ∧ wy = wr.drewN z') (fun i _ => bs.length - (intOf i).toNat)
              case atStart => exact ⟨0, z, Nat.zero_le _, rfl, rfl⟩
              case round =>
                obtain ⟨m, z', hm, rfl, rfl⟩ := hrel
                by_cases hltm : m < bs.length
                · obtain ⟨g1, o1, rfl, hg1, hc1⟩ := RI.out.at_ (bv_get (bs.map (~~~ ·)) m (by rw [List.length_map]; exact hltm))
                  obtain ⟨g2, o2, rfl, hg2, hc2⟩ := RU.out.at_ (bv_get bs m hltm)
                  rw [List.getElem_map] at hc1
                  have e0 := bt_not' bs[m]
                  rw [bt_notn] at hc1
                  unfold bt at hc2
                  have m0 : (0 : Int) ≤ (m : Int) := by omega
                  have m1 : (m : Int) < (bs.length : Int) := by omega
                  have hu8 := uns8
                  go_wp2
                  go_quiet (fail)
                  go_wp2
                  exact ⟨⟨m + 1, z' + nq, by omega, by go_num, by simp⟩, by simp [intOf]; omega⟩
                · obtain rfl : m = bs.length := by omega
                  go_wp2
                  exact ⟨⟨j + 1, z', by omega, by go_num, rfl⟩, by simp [intOf]; omega⟩
            · obtain rfl : j = p := by omega
              go_wp2
              go_ret
              exact ⟨rfl, below_dn' hbq z⟩
end Go.Proofs.Ytdmpimgbnhgiaaa

namespace Go.Proofs.Ytdmpimgbnhgiaaa
open Go.RowKit Go.St Go.Shelf Go.Maps
set_option linter.unusedVariables false
set_option linter.unusedSimpArgs false
set_option maxRecDepth 100000

theorem rbuild_any (A : Option Addr) (n c : Nat) (per bits : Int) (l : List Ent) (hl : l.length = n) (hn : n ≤ 150) (hnc : n ≤ c) (w : World) (hr : Rd w w.heap.size A (env l)) :
    Calls Try.prog 12 #[.slice A n c, .int .i64 per, .int .i64 bits] w fun e w' => ∃ A' c', e = .returned (.tuple #[.slice A' (bldL per bits l).length c', .int .i64 (bldE per bits l)]) ∧ Rd w' w'.heap.size A' (bv (bldL per bits l)) ∧ Below w.heap.size w w' := by
  by_cases h : per < 1 ∨ 64 < per ∨ bits < 1 ∨ 16 < bits ∨ l.length = 0
  · obtain ⟨h1, h2⟩ := bldE_arg h
    rw [h1, h2]
    refine (rbuild_arg A n c per bits (by omega) w).mono ?_
    rintro e w' ⟨rfl, hb⟩
    exact ⟨none, 0, rfl, Rd.nil, hb⟩
  · obtain ⟨p, rfl⟩ := Int.eq_ofNat_of_zero_le (show 0 ≤ per by omega)
    obtain ⟨b, rfl⟩ := Int.eq_ofNat_of_zero_le (show 0 ≤ bits by omega)
    exact rbuild_yes A n c p b (by omega) (by omega) l hl (by omega) hnc w hr
theorem bel_dnB {B : Nat} {a w : World} (h : Below B a w) (n : Nat) : Below B a (w.drewN n) := ⟨h.os, h.tape, h.output, h.size, h.block⟩
theorem two_get {α : Type} {a b v : α} {i : Nat} (h : [a, b][i]? = some v) : (i = 0 ∧ a = v) ∨ (i = 1 ∧ b = v) := by
  match i, h with
  | 0, h => left; exact ⟨rfl, by simpa using h⟩
  | 1, h => right; exact ⟨rfl, by simpa using h⟩
  | i + 2, h => simp at h
theorem lentT_take (l : List Ent) : (env (lentE l)).take (l.length * 4) = env l := by
  unfold lentE
  rw [env_app, List.take_append_of_le_length (by rw [env_len]; exact Nat.le_refl _), List.take_of_length_le (by rw [env_len]; exact Nat.le_refl _)]
set_option maxHeartbeats 6400000 in
theorem sstBuild_walk (w : World) (A : Option Addr) (n c : Nat) (l : List Ent) (hl : l.length = n) (hc : n ≤ c) (hn : c ≤ 140737488351232) (hr : Rd w w.heap.size A (env l)) (per bits : Int) :
    Calls Try.prog 3 #[.slice A n c, .int .i64 per, .int .i64 bits] w fun e w' => e = .returned (.bool true) ∧ Below w.heap.size w w' := by
  have HL := Lib.hid hl
  have HR := Lib.hid hr
  clear hl hr
  go_enter Try.func3, Try.ntmps3
  go_wp2_with fail
  refine (lives09_any w).mono ?_
  rintro e w2 ⟨rfl, hb⟩
  have B2 := Lib.hid hb
  clear hb
  go_wp2_with fail
  refine (small9_any A n c l HL.out (by omega) w.heap.size w2 (HR.out.below B2.out) B2.out.size).mono ?_
  rintro e w3 ⟨rfl, hb⟩
  have B3 := Lib.hid (B2.out.trans (hb.mono B2.out.size))
  clear hb B2
  cases hsm : smallT l
  · clear hsm
    go_wp2_with fail
    go_ret
    exact ⟨rfl, B3.out⟩
  obtain ⟨hsz, hl150⟩ := smallT_iff hsm
  have hn150 : n ≤ 150 := by rw [← HL.out]; exact hl150
  have HKS : Hid (∀ x ∈ l, x.key.size ≤ maxLen) := Lib.hid (fun x hx => by have := (hsz x hx).1; unfold maxLen; omega)
  clear hsm hsz
  go_wp2_with fail
  refine (lentE_any A n c w.heap.size l HL.out (by omega) w3 (HR.out.below B3.out) B3.out.size).mono ?_
  rintro e w4 ⟨v4, rfl, own4, hb⟩
  obtain ⟨A4, c4, rfl, hc4, -⟩ := own_sl own4
  obtain ⟨gF, rfl⟩ := own_blkC own4 (by omega)
  have F4 := Lib.hid own4
  have B4 := Lib.hid (B3.out.trans (hb.mono B3.out.size))
  clear own4 hb B3
  have k0 : (0 : Int) ≤ (n : Int) := by omega
  have k1 : (n : Int) ≤ (c4 : Int) := by omega
  have k2 : (n : Int) + 3 ≤ (c4 : Int) := by omega
  have HRF : Hid (∀ W, W.ownsRow w3.heap.size 40 4 (.slice (some ⟨gF, 0, none⟩) (n + 3) c4) (n + 3) (env (lentE l)) → Rd W W.heap.size (some ⟨gF, 0, none⟩) (env l)) := Lib.hid (fun W h => by
    have h1 := (own_rdL h).take (n * 4)
    rw [show (env (lentE l)).take (n * 4) = env l by rw [← HL.out]; exact lentT_take l] at h1
    exact h1)
  have HBD := Lib.hid (build_any (some ⟨gF, 0, none⟩) n c4 per bits l HL.out hn150 (by omega) HKS.out w4 (HRF.out w4 F4.out))
  obtain ⟨E, hE⟩ : ∃ E, E = bldE per bits l := ⟨_, rfl⟩
  obtain ⟨S, hS⟩ : ∃ S, S = bldL per bits l := ⟨_, rfl⟩
  rw [← hE, ← hS] at HBD
  have HE := Lib.hid hE
  have HS := Lib.hid hS
  have hSl : S.length ≤ 60200000 := by
    rw [hS]
    by_cases h : bldE per bits l = 0
    · obtain ⟨p, b, -, -, hp, hbt, -, hok, -, hld⟩ := bldE_ok h
      rw [hld]
      exact bldB_len hp.1 hbt.2 hl150 hok
    · rw [bldE_no h]
      exact Nat.zero_le _
  clear hE hS
  go_wp2_with fail
  refine HBD.out.mono ?_
  rintro e w5 ⟨Aa, ca, rfl, own5, hb⟩
  have OA5 := Lib.hid own5
  have HA := Lib.hid (fun g (hg : (Value.slice Aa S.length ca).ownBlock = some g) => own5.lt g hg)
  have HBZ : Hid (w4.heap.size ≤ w5.heap.size) := Lib.hid hb.size
  have HW4 : Hid (w.heap.size ≤ w4.heap.size) := Lib.hid B4.out.size
  have F5 := Lib.hid (own_keep F4.out hb (Nat.le_refl _))
  have B5 := Lib.hid (B4.out.trans (hb.mono B4.out.size))
  have HBE := build_any (some ⟨gF, 0, none⟩) n c4 per bits l HL.out hn150 (by omega) HKS.out w5 (HRF.out w5 F5.out)
  rw [← HE.out, ← HS.out] at HBE
  have HBE := Lib.hid HBE
  clear own5 hb HBD F4 B4
  go_wp2_with fail
  refine HBE.out.mono ?_
  rintro e w6 ⟨Ab, cb, rfl, own6, hb⟩
  have OB6 := Lib.hid own6
  have HB := Lib.hid (fun g (hg : (Value.slice Ab S.length cb).ownBlock = some g) => own6.lt g hg)
  have OA6 := Lib.hid (own_keep OA5.out hb (Nat.le_refl _))
  have F6 := Lib.hid (own_keep F5.out hb (Nat.le_refl _))
  have B6 := Lib.hid (B5.out.trans (hb.mono B5.out.size))
  have HZ56 : Hid (w5.heap.size ≤ w6.heap.size) := Lib.hid hb.size
  have HBF := rbuild_any A n c per bits l HL.out hn150 hc w6 ((HR.out.below B6.out).more B6.out.size)
  rw [← HE.out, ← HS.out] at HBF
  have HBF := Lib.hid HBF
  clear own6 hb HBE F5 B5 OA5
  go_wp2_with fail
  refine HBF.out.mono ?_
  rintro e w7 ⟨Ac, cc, rfl, rc, hb⟩
  have RC7 := Lib.hid rc
  have OA7 := Lib.hid (own_keep OA6.out hb (Nat.le_refl _))
  have OB7 := Lib.hid (own_keep OB6.out hb (Nat.le_refl _))
  have F7 := Lib.hid (own_keep F6.out hb (Nat.le_refl _))
  have B7 := Lib.hid (B6.out.trans (hb.mono B6.out.size))
  have z7 : w6.heap.size ≤ w7.heap.size := hb.size
  clear rc hb HBF F6 B6 OA6 OB6
  go_wp2_with fail
  refine (same_any Aa Ac S.length S.length ca cc w7.heap.size w7.heap.size S S rfl rfl (by omega) w7 (own_rdL OA7.out) RC7.out).mono ?_
  rintro e w8 ⟨rfl, m8, rfl⟩
  rw [decide_eq_true (rfl : S = S)]
  have hb : Below w7.heap.size w7 (w7.drewN m8) := bel_dnB (Below.refl _ _) m8
  have OA8 := Lib.hid (own_keep OA7.out hb (Nat.le_refl _))
  have OB8 := Lib.hid (own_keep OB7.out hb (Nat.le_refl _))
  have F8 := Lib.hid (own_keep F7.out hb (Nat.le_refl _))
  have B8 := Lib.hid (B7.out.trans (hb.mono B7.out.size))
  have z8 : w6.heap.size ≤ (w7.drewN m8).heap.size := Nat.le_trans z7 hb.size
  clear hb F7 B7 OA7 OB7 RC7
  generalize w7.drewN m8 = w8 at *
  go_wp2_with fail
  refine (keptE_any (some ⟨gF, 0, none⟩) A (n + 3) n c4 c _ _ (lentE l) l (by rw [lentE_length, HL.out]) HL.out (by omega) (by omega) w8 (own_rdL F8.out) (Nat.le_refl _) ((HR.out.below B8.out).more B8.out.size) (Nat.le_refl _)).mono ?_
  rintro e w9 ⟨rfl, hb⟩
  rw [decide_eq_true rfl]
  have OA9 := Lib.hid (own_keep OA8.out hb (Nat.le_refl _))
  have OB9 := Lib.hid (own_keep OB8.out hb (Nat.le_refl _))
  have B9 := Lib.hid (B8.out.trans (hb.mono B8.out.size))
  have z9 : w6.heap.size ≤ w9.heap.size := Nat.le_trans z8 hb.size
  clear hb F8 B8 OA8 OB8
  go_wp2_with fail
  have hb : Below w9.heap.size w9 (w9.alloc (.cells #[.slice Aa S.length ca, .slice Ab S.length cb] 26)) := (Below.refl _ _).alloc (Nat.le_refl _) _
  have RV := Lib.hid (rd_frC w9 #[.slice Aa S.length ca, .slice Ab S.length cb] 26 (0, 0))
  have zn : w9.heap.size < (w9.alloc (.cells #[.slice Aa S.length ca, .slice Ab S.length cb] 26)).heap.size := by simp
  have OA10 := Lib.hid (own_keep OA9.out hb (Nat.le_refl _))
  have OB10 := Lib.hid (own_keep OB9.out hb (Nat.le_refl _))
  have B10 := Lib.hid (B9.out.trans (hb.mono B9.out.size))
  generalize hw10 : w9.alloc (.cells #[.slice Aa S.length ca, .slice Ab S.length cb] 26) = w10 at *
  clear hb hw10 OA9 OB9
  have hz4 := HW4.out
  refine (apart_any (some ⟨w9.heap.size, 0, none⟩) 2 2 w10.heap.size w.heap.size [.slice Aa S.length ca, .slice Ab S.length cb] [S, S] rfl rfl (by omega) w10 RV.out (Nat.le_refl _) B10.out.size ?_ ?_ ?_ ?_).mono ?_
  · intro i v bs hv hbs
    rcases two_get hv with ⟨rfl, rfl⟩ | ⟨rfl, rfl⟩
    · obtain rfl : S = bs := by simpa using hbs
      exact own_base OA10.out (by omega)
    · obtain rfl : S = bs := by simpa using hbs
      exact own_base OB10.out (by have := HBZ.out; omega)
  · intro i j v v' hij hi hj
    cases hv : v.ownBlock with
    | none => exact .inl rfl
    | some g =>
      right
      intro e
      rcases two_get hi with ⟨rfl, rfl⟩ | ⟨rfl, rfl⟩ <;> rcases two_get hj with ⟨rfl, rfl⟩ | ⟨rfl, rfl⟩
      · exact hij rfl
      · have := HA.out g hv; have := HB.out g e.symm; omega
      · have := HB.out g hv; have := HA.out g e.symm; omega
      · exact hij rfl
  · intro g o hA i v hv hvg
    injection hA with hA
    injection hA with e1 e2
    rcases two_get hv with ⟨rfl, rfl⟩ | ⟨rfl, rfl⟩
    · have := (HA.out g hvg).2; have := HZ56.out; omega
    · have := (HB.out g hvg).2; omega
  · intro i bs hbs
    rcases two_get hbs with ⟨rfl, rfl⟩ | ⟨rfl, rfl⟩ <;> omega
  rintro e w11 ⟨rfl, hb11⟩
  have B11 := Lib.hid (B10.out.trans hb11)
  clear hb11
  go_wp2_with fail
  go_ret
  exact ⟨rfl, B11.out⟩
theorem sstBuild_law (w : World) (x : EntsArg w) (_ : True) (per : Int) (_ : (Lit.int .i64 per).wf = true) (bits : Int) (_ : (Lit.int .i64 bits).wf = true) :
    Calls Try.prog 3 #[.slice x.A x.n x.c, .int .i64 per, .int .i64 bits] w fun e w' => e = .returned (.bool true) ∧ Below w.heap.size w w' :=
  sstBuild_walk w x.A x.n x.c x.l x.hl x.hc x.hn x.rd per bits
end Go.Proofs.Ytdmpimgbnhgiaaa
