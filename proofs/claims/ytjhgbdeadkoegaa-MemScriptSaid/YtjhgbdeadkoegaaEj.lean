/- The walk of ApartEntries: lists that share no memory are found apart. -/
import Derived.Test.YtjhgbdeadkoegaaEf
import Derived.Test.YtjhgbdeadkoegaaBb
import Derived.Test.YtjhgbdeadkoegaaRow
namespace Go.Proofs.Ytjhgbdeadkoegaa
open Go.RowKit Go.St Go.Maps
set_option linter.unusedVariables false
set_option linter.unusedSimpArgs false
set_option maxRecDepth 100000

theorem styEE : STy Try.prog 62 22 1 24 (.slice none 0 0) := ⟨Try.underlying62, ⟨_, rfl, by kernel_rfl, by kernel_rfl, by kernel_rfl⟩, rfl, by decide⟩
theorem rd_grown {W W' : World} {A : Option Addr} {xs : List Value} {row : Option Nat} (h : Rd W W.heap.size A xs) (hg : W.grownBy W' row) (hne : ∀ g o, A = some ⟨g, o, none⟩ → row ≠ some g) : Rd W' W'.heap.size A xs := fun hn => by
  obtain ⟨b, off, e, hb, hc⟩ := h hn
  exact ⟨b, off, e, Nat.lt_of_lt_of_le hb hg.size, fun i v hv => hg.cell (hc i v hv) (fun e2 => hne b off e e2.symm)⟩
/-- Lists of entries that lie apart from a row. -/
def LsR (W : World) (row : Option Nat) (vs : List Value) (ls : List (List Ent)) : Prop := ∀ (i : Nat) (l : List Ent), ls[i]? = some l → ∃ (Ai : Option Addr) (ci : Nat), vs[i]? = some (Value.slice Ai l.length ci) ∧ Rd W W.heap.size Ai (env l) ∧ ∀ g o, Ai = some ⟨g, o, none⟩ → row ≠ some g
theorem LsR.grown {W W' : World} {row : Option Nat} {vs : List Value} {ls : List (List Ent)} (h : LsR W row vs ls) (hg : W.grownBy W' row) : LsR W' row vs ls := fun i l hl => by
  obtain ⟨Ai, ci, h1, h2, h3⟩ := h i l hl
  exact ⟨Ai, ci, h1, rd_grown h2 hg h3, h3⟩
theorem env_set0 {l : List Ent} {i : Nat} {x : Ent} (hx : l[i]? = some x) (s : ByteArray) : (env l).set (i * 4) (.string s) = env (l.set i ⟨s, x.val, x.seq, x.del⟩) := by
  induction l generalizing i with
  | nil => simp at hx
  | cons y r ih =>
    cases i with
    | zero =>
      have e : y = x := by simpa using hx
      subst e
      rfl
    | succ i =>
      rw [env_cons, List.set_cons_succ, env_cons, List.set_append_right _ _ (by show 4 ≤ _; omega), show (i + 1) * 4 - y.c.length = i * 4 by show (i + 1) * 4 - 4 = _; omega, ih (by simpa using hx)]
theorem below_grownBy {W W' : World} {row : Option Nat} (h : Below W.heap.size W W') : W.grownBy W' row := ⟨h.os, h.tape, h.output, h.size, fun k hk _ => h.block k hk⟩
theorem own_grown {w w' : World} {base : Nat} {e : TypeId} {s n : Nat} {v : Value} {xs : List Value} {b : Nat} (h : w.ownsRow base e s v n xs) (hg : w.grownBy w' (some b)) (hne : ∀ g, v.ownBlock = some g → g ≠ b) : w'.ownsRow base e s v n xs :=
  h.kept hg (by
    cases hv : v.ownBlock with
    | none => exact .inl rfl
    | some g => exact .inr (fun e => by injection e with e; exact hne g hv e))

def lenS : Value → Nat | .slice _ n _ => n | _ => 0
theorem news_new (w : World) (C : Array Value) (t : TypeId) : ∀ j u, C.toList[j]? = some u → (w.alloc (.cells C t)).cell? ((⟨w.heap.size, 0, none⟩ : Addr).add j) = some u := by
  intro j u hu
  unfold Addr.add
  split
  · rename_i h0
    subst h0
    rw [World.cell?_alloc_mark]
    simpa using hu
  · rw [World.cell?_alloc_mark]
    simpa using hu
theorem own_caps {w : World} {base n cap size : Nat} {A : Option Addr} {e : TypeId} {xs : List Value} (h : w.ownsRow base e size (.slice A n cap) n xs) : n ≤ cap ∧ cap ≤ maxLen := by
  rcases h.2 with ⟨h', h2⟩ | ⟨g, cap', cur, h', hb, hg, hnc, hcm, _⟩
  · injection h' with _ e1 e2
    subst e2
    exact ⟨by omega, Nat.zero_le _⟩
  · injection h' with _ e1 e2
    subst e2
    exact ⟨hnc, hcm⟩
theorem own_blkC {w : World} {base n cap size : Nat} {A : Option Addr} {e : TypeId} {xs : List Value} (h : w.ownsRow base e size (.slice A n cap) n xs) (hc : 0 < cap) : ∃ g, A = some ⟨g, 0, none⟩ := by
  rcases h.2 with ⟨h', h2⟩ | ⟨g, cap', cur, h', _⟩
  · injection h' with _ e1 e2
    omega
  · injection h' with e1 _
    exact ⟨g, e1⟩
set_option maxHeartbeats 6400000 in
theorem apartE_any (Aa : Option Addr) (n ca base : Nat) (la : List Ent) (A2 : Option Addr) (k c2 : Nat) (vs : List Value) (ls : List (List Ent)) (hla : la.length = n) (hn : n ≤ 1000000) (hk : k ≤ 1000000) (hv : vs.length = k) (hl : ls.length = k) (hs : ∀ l ∈ ls, l.length ≤ 1000000) (hks : ∀ e ∈ la, e.key.size ≤ 1000000) (w : World)
    (own : w.ownsRow base 32 4 (.slice Aa n ca) n (env la)) (hr : Rd w w.heap.size A2 vs) (hr2 : ∀ g o, A2 = some ⟨g, o, none⟩ → (Value.slice Aa n ca).ownBlock ≠ some g) (hls : LsR w (Value.slice Aa n ca).ownBlock vs ls) :
    Calls Try.prog 34 #[.slice Aa n ca, .slice A2 k c2] w fun e w' => e = .returned (.bool true) ∧ w.grownBy w' (Value.slice Aa n ca).ownBlock := by
  have HLA := Lib.hid hla
  have HKS : Hid (∀ (j : Nat) (x : Ent), 0 ≤ j → la[j]? = some x → x.key.size ≤ 1000000) := Lib.hid (fun j x _ hx => hks x (List.mem_of_getElem? hx))
  have HV := Lib.hid hv
  have HL := Lib.hid hl
  have HS := Lib.hid hs
  have HO := Lib.hid own
  have HR := Lib.hid hr
  have HR2 := Lib.hid hr2
  have HLS := Lib.hid hls
  have OLT : Hid (∀ g, (Value.slice Aa n ca).ownBlock = some g → g < w.heap.size) := Lib.hid (fun g hg => (own.lt g hg).2)
  obtain ⟨w1, hmk, own1, gr1⟩ := run_mk styEE w w.heap.size k (by omega) (by unfold maxLen; omega) (Nat.le_refl _)
  have hb1 : Below w.heap.size w w1 := (Below.refl _ _).grown gr1 (Nat.le_refl _) (by simp)
  have O1 : Hid (w1.ownsRow w.heap.size 22 1 (.slice (some ⟨w.heap.size, 0, none⟩) k k) k ([] ++ List.replicate (k - 0) (.slice none 0 0))) := Lib.hid (by
    have e : (madeCells (Value.cells (.slice none 0 0)) (k * 1)).toList = [] ++ List.replicate (k - 0) (.slice none 0 0) := by
      rw [Nat.mul_one]
      show (madeCells #[.slice none 0 0] k).toList = _
      rw [toList_madeCells_one]
      simp
    rw [← e]
    exact own1)
  have hz1 : w.heap.size + 1 ≤ w1.heap.size := (own1.lt _ rfl).2
  have B1 := Lib.hid hb1
  clear own1 gr1 hla hks hv hl hs own hr hr2 hls hb1
  go_enter Try.func34, Try.ntmps34
  go_wp2
  clear hmk
  go_loopw [6] (fun s6 wr => ∃ (q : Nat) (ws : List Value), s6 = .int .i64 (q : Int) ∧ q ≤ k ∧ Hid (ws.length = q) ∧ Hid (wr.ownsRow w.heap.size 22 1 (.slice (some ⟨w.heap.size, 0, none⟩) k k) k (ws ++ List.replicate (k - q) (.slice none 0 0))) ∧
      Hid (∀ (j : Nat) (u : Value) (l : List Ent), ws[j]? = some u → ls[j]? = some l → wr.ownsRow (w.heap.size + 1) 32 4 u l.length (env l)) ∧ Hid (Below w.heap.size w wr) ∧ w.heap.size + 1 ≤ wr.heap.size) (fun s6 _ => k - (intOf s6).toNat)
  case atStart => exact ⟨0, [], rfl, Nat.zero_le _, Lib.hid rfl, O1, Lib.hid (by simp), B1, hz1⟩
  case round =>
    clear O1 hz1 B1
    obtain ⟨q, ws, rfl, hq, WL, OW, WS, B2, hz⟩ := hrel
    obtain ⟨w2, rfl⟩ : ∃ x, x = wr := ⟨_, rfl⟩
    by_cases hlt : q < k
    · obtain ⟨l, hll⟩ : ∃ l, ls[q]? = some l := ⟨_, List.getElem?_eq_getElem (by rw [HL.out]; exact hlt)⟩
      obtain ⟨Ai, ci, hvi, hri, hri2⟩ := HLS.out q l hll
      obtain ⟨gl, ol, rfl, hgl, hcl⟩ := (HR.out.below B2.out).at_ hvi
      have RI := Lib.hid ((hri.below B2.out).more B2.out.size)
      have hll1 := HS.out l (List.mem_of_getElem? hll)
      have HLL := Lib.hid hll
      have i1 : (q : Int) < (k : Int) := by omega
      have i0 : (0 : Int) ≤ (q : Int) := by omega
      have hneq : w.heap.size ≠ w2.heap.size := by omega
      have zgl : gl < w2.heap.size := by have := B2.out.size; omega
      have hget : (ws ++ List.replicate (k - q) (Value.slice none 0 0))[q]? = some (.slice none 0 0) := by
        rw [List.getElem?_append_right (by rw [WL.out]; exact Nat.le_refl _), WL.out, Nat.sub_self, List.getElem?_replicate, if_pos (by omega)]
      have HG := Lib.hid hget
      have hset : ∀ u, (ws ++ List.replicate (k - q) (Value.slice none 0 0)).set q u = (ws ++ [u]) ++ List.replicate (k - (q + 1)) (.slice none 0 0) := fun u => by
        rw [List.set_append_right _ _ (by rw [WL.out]; exact Nat.le_refl _), WL.out, Nat.sub_self, show k - q = (k - (q + 1)) + 1 by omega, List.replicate_succ, List.set_cons_zero]
        simp
      have HSET := Lib.hid hset
      clear hri hri2 hvi hll hget hset
      go_wp2_with (at_builtin; refine wpList_app styE (.tmp 21) (.tmp 25) rfl rfl (w.heap.size + 1) (World.ownsRow_lit w2 #[] 0 hz (by decide) rfl) rfl l.length ci (RI.out.alloc (Nat.le_refl _) _) rfl (by rw [env_len]) (env_one _) (by unfold maxLen; omega) (by omega) (by rw [World.size_alloc]; omega) ?_; intro v3 w3 own3 gr3 nil3 at3; simp only [Nat.zero_add, List.nil_append] at own3; obtain ⟨A6, c6, rfl, -, -⟩ := own_sl own3; have O3 := (OW.out.alloc (.cells #[] 32)).kept gr3 (.inr (fun e => hneq (Option.some.inj e))); have hcx := O3.cellAt q (by omega); rw [HG.out] at hcx; have hfx := O3.frozenAt q; have O3' := Lib.hid O3; clear O3)
      have o4 := (O3'.out.stored q (.slice A6 l.length c6)).1
      rw [HSET.out] at o4
      have O4 := Lib.hid o4
      have B3 := ((B2.out.alloc B2.out.size (.cells #[] 32)).grown gr3 (by have := B2.out.size; rw [World.size_alloc]; omega) (fun g e => by injection e with e; rw [← e]; exact B2.out.size))
      have own4 : w3.ownsRow (w.heap.size + 1) 32 4 (.slice A6 l.length c6) l.length (env l) := own3
      have hs3 := B3.size
      have hz3 : w.heap.size + 1 ≤ w3.heap.size := by have := gr3.size; rw [World.size_alloc] at this; omega
      have W4 : Hid (∀ (j : Nat) (u : Value) (b : List Ent), (ws ++ [Value.slice A6 l.length c6])[j]? = some u → ls[j]? = some b → (w3.setCell ⟨w.heap.size, q, none⟩ (.slice A6 l.length c6)).ownsRow (w.heap.size + 1) 32 4 u b.length (env b)) := Lib.hid (by
        intro j u b hu hb
        rcases Nat.lt_or_ge j q with h1 | h1
        · rw [List.getElem?_append_left (by rw [WL.out]; exact h1)] at hu
          have h2 := (WS.out j u b hu hb)
          have h3 : w3.ownsRow (w.heap.size + 1) 32 4 u b.length (env b) := own_grown (b := w2.heap.size) (h2.alloc (.cells #[] 32)) gr3 (fun g hg => by have := (h2.lt g hg).2; omega)
          exact ownsRow_setCell_other h3 (fun e => by have := (h3.lt _ e).1; (try simp at this); omega) _
        · rw [List.getElem?_append_right (by rw [WL.out]; exact h1), WL.out] at hu
          have hj : j = q := by
            have := (List.getElem?_eq_some_iff.1 hu).1
            simp at this
            omega
          subst hj
          rw [Nat.sub_self] at hu
          simp at hu
          subst hu
          have e1 : l = b := by have := HLL.out; rw [this] at hb; exact Option.some.inj hb
          subst e1
          exact ownsRow_setCell_other own4 (fun e => by have := (own4.lt _ e).1; (try simp at this); omega) _)
      have B5 := Lib.hid (B3.setCell (p := ⟨w.heap.size, q, none⟩) (Nat.le_refl _) (.slice A6 l.length c6))
      have hz5 : w.heap.size + 1 ≤ (w3.setCell ⟨w.heap.size, q, none⟩ (.slice A6 l.length c6)).heap.size := by simp; omega
      clear own3 gr3 nil3 at3 own4 B3 o4 hs3
      go_roundw
      case rel => exact ⟨q + 1, ws ++ [Value.slice A6 l.length c6], by go_num, by omega, Lib.hid (by rw [List.length_append, WL.out]; rfl), O4, W4, B5, hz5⟩
      case measure => simp [intOf]; omega
    · obtain rfl : q = k := by omega
      have O2 : Hid (w2.ownsRow w.heap.size 22 1 (.slice (some ⟨w.heap.size, 0, none⟩) q q) q ws) := Lib.hid (by
        have := OW.out
        rw [Nat.sub_self, List.replicate_zero, List.append_nil] at this
        exact this)
      have OA : Hid (w2.ownsRow base 32 4 (.slice Aa n ca) n (env la)) := Lib.hid (own_keep HO.out B2.out (Nat.le_refl _))
      have R2 := Lib.hid ((HR.out.below B2.out).more B2.out.size)
      have L2 := Lib.hid (HLS.out.grown (below_grownBy B2.out))
      clear OW HR HLS HO
      have G2 : Hid (w2.grownBy w2 (Value.slice Aa n ca).ownBlock) := Lib.hid (World.grownBy.refl _ _)
      have K2 : Hid (∀ W, w2.grownBy W (Value.slice Aa n ca).ownBlock → W.ownsRow w.heap.size 22 1 (.slice (some ⟨w.heap.size, 0, none⟩) q q) q ws ∧ (∀ (j : Nat) (u : Value) (l : List Ent), ws[j]? = some u → ls[j]? = some l → W.ownsRow (w.heap.size + 1) 32 4 u l.length (env l))) := Lib.hid (fun W hW => by
        constructor
        · refine O2.out.kept hW (.inr (fun e => ?_))
          have := OLT.out w.heap.size e.symm
          omega
        · intro j u l h1 h2
          have h3 := WS.out j u l h1 h2
          refine h3.kept hW ?_
          cases hub : u.ownBlock with
          | none => exact .inl rfl
          | some g =>
            refine .inr (fun e => ?_)
            have h4 := (h3.lt g hub).1
            have h5 := OLT.out g e.symm
            omega)
      clear O2 WS
      go_wp2
      go_loopw [7] (fun s7 wr => ∃ (i : Nat) (l' : List Ent), s7 = .int .i64 (i : Int) ∧ i ≤ n ∧ Hid (l'.length = n) ∧ Hid (∀ (j : Nat) (x : Ent), i ≤ j → l'[j]? = some x → x.key.size ≤ 1000000) ∧ Hid (wr.ownsRow base 32 4 (.slice Aa n ca) n (env l')) ∧ Hid (w2.grownBy wr (Value.slice Aa n ca).ownBlock)) (fun s7 _ => n - (intOf s7).toNat)
      case atStart => exact ⟨0, la, rfl, Nat.zero_le _, HLA, HKS, OA, G2⟩
      case round =>
        clear OA G2
        obtain ⟨i, l', rfl, hi, HL', HK3, OA, G3⟩ := hrel
        obtain ⟨w3, rfl⟩ : ∃ x, x = wr := ⟨_, rfl⟩
        by_cases hlt2 : i < n
        · obtain ⟨x, hx⟩ : ∃ x, l'[i]? = some x := ⟨_, List.getElem?_eq_getElem (by rw [HL'.out]; exact hlt2)⟩
          obtain ⟨g, c', hsl, hb1, hb2⟩ := OA.out.form (by omega)
          injection hsl with e1 _ e3
          subst e1
          have hcx := OA.out.cellAt (i * 4) (by omega)
          rw [show (env l')[i * 4]? = some (.string x.key) from env_get hx 0 _ rfl] at hcx
          have hfx := OA.out.frozenAt (i * 4)
          have o4 := OA.out.stored (i * 4) (.string (x.key ++ ⟨#[126]⟩))
          rw [env_set0 hx] at o4
          have hkx := HK3.out i x (Nat.le_refl _) hx
          have hkx2 : (x.key.size : Int) + 1 ≤ 9223372036854775807 := by omega
          have HK4 : Hid (∀ (j : Nat) (y : Ent), i + 1 ≤ j → (l'.set i ⟨x.key ++ ⟨#[126]⟩, x.val, x.seq, x.del⟩)[j]? = some y → y.key.size ≤ 1000000) := Lib.hid (fun j y hj hy => by
            rw [List.getElem?_set_ne (by omega)] at hy
            exact HK3.out j y (by omega) hy)
          have O4 := Lib.hid o4.1
          have G4 := Lib.hid (G3.out.trans o4.2)
          have i1 : (i : Int) < (n : Int) := by omega
          have i0 : (0 : Int) ≤ (i : Int) := by omega
          clear o4 hx
          go_wp2_with fail
          go_roundw
          case rel => exact ⟨i + 1, _, by go_num, by omega, Lib.hid (by rw [List.length_set]; exact HL'.out), HK4, O4, G4⟩
          case measure => simp [intOf]; omega
        · have i1 : ¬ (i : Int) < (n : Int) := by omega
          clear hlt2
          go_wp2
          have hcp := own_caps OA.out
          unfold maxLen at hcp
          go_loopw [0] (fun s0 wr => ∃ (m : Nat) (l'' : List Ent), s0 = .slice Aa m ca ∧ m ≤ ca ∧ Hid (l''.length = m) ∧ Hid (wr.ownsRow base 32 4 (.slice Aa m ca) m (env l'')) ∧ Hid (w2.grownBy wr (Value.slice Aa n ca).ownBlock)) (fun s0 _ => ca - lenS s0)
          case atStart => exact ⟨n, l', rfl, hcp.1, HL', OA, G3⟩
          case round =>
            clear OA G3 HL' HK3
            obtain ⟨m, l2, rfl, hm, HL2, OA, G3⟩ := hrel
            obtain ⟨w4, rfl⟩ : ∃ x, x = wr := ⟨_, rfl⟩
            by_cases hlt3 : m < ca
            · obtain ⟨g, rfl⟩ := own_blkC OA.out (by omega)
              have i2 : (m : Int) < (ca : Int) := by omega
              go_wp2_with (at_builtin; refine wpList_fitS styE (.tmp 50) (.tmp 52) rfl rfl base (OA.out.alloc _) rfl ⟨w4.heap.size, 0, none⟩ 1 1 (news_new _ _ _) rfl rfl (by simp [Value.oneCell']) (by omega) ?_; intro w6 own6 gr6)
              have O6 : Hid (w6.ownsRow base 32 4 (.slice (some ⟨g, 0, none⟩) (m + 1) ca) (m + 1) (env (l2 ++ [⟨⟨#[111, 118, 101, 114]⟩, zB, 0, false⟩]))) := Lib.hid (own_eq own6 rfl (by rw [env_app]; rfl))
              have G6 := Lib.hid (G3.out.trans ((World.grownBy_alloc w4 (.cells #[.string { data := #[111, 118, 101, 114] }, .string { data := #[] }, .int .i64 0, .bool false] 32) _).trans gr6))
              clear own6 gr6
              go_roundw
              case rel => exact ⟨m + 1, _, rfl, by omega, Lib.hid (by rw [List.length_append, HL2.out]; rfl), O6, G6⟩
              case measure => simp [lenS]; omega
            · have i2 : ¬ (m : Int) < (ca : Int) := by omega
              have R4 := Lib.hid (rd_grown R2.out G3.out HR2.out)
              have L4 := Lib.hid (L2.out.grown G3.out)
              have K4 := Lib.hid (K2.out w4 G3.out)
              have hq4 : w.heap.size ≤ w4.heap.size := by have h1 := B2.out.size; have h2 := G3.out.size; omega
              clear hlt3 R2 L2 K2 OA
              go_wp2
              go_loopw [9] (fun s9 wr => ∃ i : Nat, s9 = .int .i64 (i : Int) ∧ i ≤ q ∧ Hid (Below w4.heap.size w4 wr)) (fun s9 _ => q - (intOf s9).toNat)
              case atStart => exact ⟨0, rfl, Nat.zero_le _, Lib.hid (Below.refl _ _)⟩
              case round =>
                obtain ⟨p, rfl, hp, B5⟩ := hrel
                obtain ⟨w5, rfl⟩ : ∃ x, x = wr := ⟨_, rfl⟩
                by_cases hlt4 : p < q
                · obtain ⟨l, hll⟩ : ∃ l, ls[p]? = some l := ⟨_, List.getElem?_eq_getElem (by rw [HL.out]; exact hlt4)⟩
                  obtain ⟨Ai, ci, hvi, hri, hri2⟩ := L4.out p l hll
                  obtain ⟨gl, ol, rfl, hgl, hcl⟩ := (R4.out.below B5.out).at_ hvi
                  obtain ⟨u, hu⟩ : ∃ u, ws[p]? = some u := ⟨_, List.getElem?_eq_getElem (by have := WL.out; omega)⟩
                  have hcu := (own_keep K4.out.1 B5.out (Nat.le_refl _)).cellAt p (by omega)
                  rw [hu] at hcu
                  obtain ⟨Au, cu, rfl, -, ru⟩ := own_sl (K4.out.2 p u l hu hll)
                  have hll1 := HS.out l (List.mem_of_getElem? hll)
                  have HQ := Lib.hid (fun W (hW : Below w5.heap.size w5 W) => sameE_any Ai Au l.length l.length ci cu _ _ l l rfl rfl (by omega) W (hri.below (B5.out.trans (hW.mono B5.out.size))) (Nat.le_trans B5.out.size hW.size) (ru.below (B5.out.trans (hW.mono B5.out.size))) (Nat.le_trans B5.out.size hW.size))
                  rw [show decide (l = l) = true by simp] at HQ
                  have i3 : (p : Int) < (q : Int) := by omega
                  have i4 : (0 : Int) ≤ (p : Int) := by omega
                  have zgl : gl < w5.heap.size := by have := B5.out.size; omega
                  have zw : w.heap.size < w5.heap.size := by have h1 := B5.out.size; have h2 := (K4.out.1.lt w.heap.size rfl).2; omega
                  clear hri hri2 hvi hll ru hu
                  go_wp2_with fail
                  refine wp_qall (by kernel_rfl) (by kernel_rfl) ?_
                  intro hcg
                  repeat (first | go_big_quiet_step ((with_reducible (exact Calls.reg (HQ.out _ (below_regrown _ _ _))))) | quiet_step ((with_reducible (exact Calls.reg (HQ.out _ (below_regrown _ _ _))))))
                  refine wpQuiet_nil ?_
                  intro wq hbwq hcwq hfwq
                  clear hcg
                  have B9 := Lib.hid (B5.out.trans (hbwq.mono B5.out.size))
                  clear hbwq hcwq hfwq
                  go_wp2_with fail
                  go_roundw
                  case rel => exact ⟨p + 1, by go_num, by omega, B9⟩
                  case measure => simp [intOf]; omega
                · have i3 : ¬ (p : Int) < (q : Int) := by omega
                  go_wp2_with fail
                  go_ret
                  exact ⟨rfl, (below_grownBy B2.out).trans (G3.out.trans (below_grownBy B5.out))⟩
end Go.Proofs.Ytjhgbdeadkoegaa
