/- Walks: the document's net: Send. -/
import Derived.Test.YtlpdihcgdgkkbaaSp
namespace Go.Proofs.Ytlpdihcgdgkkbaa
open Go.RowKit Go.St
set_option linter.unusedVariables false
set_option linter.unusedSimpArgs false
set_option maxRecDepth 100000

theorem rnone_net {W : World} {base b : Nat} {v : Value} {F : Nat → Prop} {s : Nt} (h : NetR W base b v F s) : Calls Try.prog 85 #[.pointer (some ⟨b, 0, none⟩)] W fun e w' => e = .returned (.bool false) ∧ W = w' := by
  obtain ⟨l, e, h⟩ := h
  have c0 := h.cell 0 _ rfl
  clear h e
  go_enter Try.func85, Try.ntmps85
  go_wp2
  go_ret
  exact ⟨rfl, rfl⟩
theorem rnew_no (k : Int) (hk : k < 1 ∨ 7 < k) (w : World) : Calls Try.prog 50 #[.int .i64 k] w fun e w' => e = .returned (.tuple #[.pointer none, .int .i64 2]) ∧ w = w' := by
  rcases hk with h | h
  · go_enter Try.func50, Try.ntmps50
    go_wp2
    go_ret2
    exact ⟨rfl, rfl⟩
  · go_enter Try.func50, Try.ntmps50
    go_wp2
    go_ret2
    exact ⟨rfl, rfl⟩
theorem netS_new {W' : World} {base b : Nat} {cs : List Value} (hlt : b < W'.heap.size) (hb : base ≤ b) (hz : ∀ o, W'.frozen? ⟨b, o, none⟩ = false) (hc : ∀ i u, cs[i]? = some u → W'.cell? ⟨b, i, none⟩ = some u) : NetS W' base b cs (.slice none 0 0) (fun _ => False) [] :=
  ⟨hlt, hb, hz, hc, ⟨rfl, .inl ⟨rfl, rfl⟩⟩, by simp [Value.ownBlock], fun k h => h.elim, fun x h => by simp at h, Nat.zero_le _⟩
theorem rnew_ok (k : Int) (h1 : 1 ≤ k) (h7 : k ≤ 7) (base : Nat) (w : World) (hb : base ≤ w.heap.size) : Calls Try.prog 50 #[.int .i64 k] w fun e w' => e = .returned (.tuple #[.pointer (some ⟨w.heap.size, 0, none⟩), .int .i64 0]) ∧ NetR w' base w.heap.size (.slice none 0 0) (fun _ => False) ⟨k, 0, []⟩ ∧ Below w.heap.size w w' := by
  have a1 : ¬ k < 1 := by omega
  have a7 : ¬ 7 < k := by omega
  go_enter Try.func50, Try.ntmps50
  go_wp2
  go_ret2
  refine ⟨rfl, ⟨[], rfl, netS_new (by simp) hb (fun o => World.frozen?_alloc_at _ _ _ _ rfl) (fun i u hu => ?_)⟩, by go_grown⟩
  rw [World.cell?_alloc_mark]
  simpa [csR] using hu
theorem snew_net (k : Int) (h1 : 1 ≤ k) (h7 : k ≤ 7) (base : Nat) (w : World) (hb : base ≤ w.heap.size) : Calls Try.prog 34 #[.int .i64 k] w fun e w' => e = .returned (.tuple #[.pointer (some ⟨w.heap.size, 0, none⟩), .int .i64 0]) ∧ NetP w' base w.heap.size (.slice none 0 0) (fun _ => False) ⟨k, 0, []⟩ ∧ Below w.heap.size w w' := by
  refine (snew_ok k h1 h7 w).mono ?_
  rintro e w' ⟨rfl, h, hB⟩
  refine ⟨rfl, ⟨[], rfl, netS_new h.lt hb h.fz (fun i u hu => ?_)⟩, hB⟩
  match i, hu with
  | 0, hu => cases hu; exact h.c0
  | 1, hu => cases hu; exact h.c1
  | 2, hu => cases hu; exact h.c2
  | i + 3, hu => simp [csP] at hu
theorem newWF (k : Int) (h1 : 1 ≤ k) (h7 : k ≤ 7) : Nt.WF ⟨k, 0, []⟩ := ⟨⟨h1, h7⟩, Int.le_refl _, List.Pairwise.nil, fun x h => by simp at h, by simp⟩
set_option maxHeartbeats 800000 in
theorem rown_any (A : Option Addr) (n c B : Nat) (bs : List UInt8) (hl : bs.length = n) (hn : n ≤ 140737488351232) (w : World) (hr : Rd w B A (bv bs)) (hB : B ≤ w.heap.size) :
    Calls Try.prog 86 #[.slice A n c] w fun e w' => ∃ v, e = .returned v ∧ w'.ownsRow w.heap.size 5 1 v n (bv bs) ∧ Below w.heap.size w w' := by
  have HR := Lib.hid hr; have HL := Lib.hid hl
  clear hr hl
  go_enter Try.func86, Try.ntmps86
  go_wp2_with (at_builtin; refine wpList_app sty22 (.tmp 4) (.tmp 5) rfl rfl w.heap.size (World.ownsRow_nil w w.heap.size _ 1) rfl n c HR.out rfl (by rw [bv_length, HL.out]; omega) (bv_one _) (by unfold maxLen; omega) (by omega) (Nat.le_refl _) ?_; intro v1 w1 own1 gr1 nil1 at1)
  have hb1 : Hid (Below w.heap.size w w1) := Lib.hid ((Below.refl _ _).grown gr1 (Nat.le_refl _) (by simp [Value.ownBlock]))
  go_ret
  exact ⟨_, rfl, own_eq own1 (by omega) (by simp), hb1.out⟩
def placeI (s : Nt) (num : Int) : Int := if hitB s num then hitI s num else -1
theorem place_at {s : Nt} {num : Int} {k : Nat} (hk : k < s.ks.length) (h : ∀ t, t < k → numI s t ≠ num) (he : numI s k = num) : placeI s num = k := by
  have hb : hitB s num = true := by
    unfold hitB
    rw [List.any_eq_true]
    exact ⟨s.ks[k], List.getElem_mem _, by rw [numI_get (List.getElem?_eq_getElem hk)] at he; simpa using he⟩
  unfold placeI
  rw [if_pos hb]
  congr 1
  rcases Nat.lt_trichotomy (hitI s num) k with h1 | h1 | h1
  · exact absurd (by rw [numI_get (hit_get hb), hit_num hb]) (h _ h1)
  · exact h1
  · have := List.not_of_lt_findIdx h1
    rw [numI_get (List.getElem?_eq_getElem hk)] at he
    simp [he] at this
theorem place_no {s : Nt} {num : Int} (h : ∀ t, t < s.ks.length → numI s t ≠ num) : placeI s num = -1 := by
  unfold placeI
  rw [if_neg]
  intro hb
  exact h _ (hit_lt hb) (by rw [numI_get (hit_get hb), hit_num hb])
set_option maxHeartbeats 800000 in
theorem rplace_any {W : World} {base b : Nat} {v : Value} {F : Nat → Prop} {s : Nt} (h : NetR W base b v F s) (num : Int) :
    Calls Try.prog 94 #[.pointer (some ⟨b, 0, none⟩), .int .i64 num] W fun e w' => e = .returned (.int .i64 (placeI s num)) ∧ W = w' := by
  obtain ⟨l, el, hs⟩ := h
  obtain ⟨A, c, rfl, -, -, hr⟩ := hs.row
  have hl : l.length = s.ks.length := by rw [← el, List.length_map]
  have hlen := hs.len
  have c2 := hs.cell 2 _ rfl
  have HC : Hid (∀ k, k < l.length → ∃ g, A = some ⟨g, 0, none⟩ ∧ W.cell? ⟨g, k * 4, none⟩ = some (.int .i64 (numI s k))) := Lib.hid (fun k hk => by
    obtain ⟨g, hA, hg, hc⟩ := hr (by rintro rfl; simp at hk)
    refine ⟨g, hA, ?_⟩
    have h1 := hc k l[k] 0 _ (List.getElem?_eq_getElem hk) rfl
    have h2 : s.ks[k]? = some l[k].k := by rw [← el, List.getElem?_map, List.getElem?_eq_getElem hk]; rfl
    rw [numI_get h2]
    simpa using h1)
  have HA := Lib.hid (fun (k : Nat) (hk : k < l.length) => place_at (s := s) (num := num) (k := k) (by omega))
  have HN := Lib.hid (fun (hh : ∀ t, t < l.length → numI s t ≠ num) => place_no (s := s) (num := num) (by rw [← hl]; exact hh))
  generalize placeI s num = R at *
  clear hs el hr hl
  go_enter Try.func94, Try.ntmps94
  go_wp2_with fail
  go_loopw [5] (fun i wr => ∃ k : Nat, i = .int .i64 k ∧ k ≤ l.length ∧ Hid (∀ t, t < k → numI s t ≠ num) ∧ wr = W) (fun i _ => l.length - (intOf i).toNat)
  case atStart => exact ⟨0, rfl, Nat.zero_le _, Lib.hid (fun t h => absurd h (Nat.not_lt_zero _)), rfl⟩
  case round =>
    obtain ⟨k, rfl, hk, hno, rfl⟩ := hrel
    by_cases hlt : k < l.length
    · obtain ⟨g, rfl, hc⟩ := HC.out k hlt
      have i1 : (k : Int) < (l.length : Int) := by omega
      have i0 : (0 : Int) ≤ (k : Int) := by omega
      by_cases he : numI s k = num
      · have hR := HA.out k hlt hno.out he
        subst hR
        have e1 : (numI s k == num) = true := by simpa using he
        clear HA HN HC he hno
        generalize numI s k = z at *
        go_wp2_with fail
        go_ret
        exact ⟨rfl, rfl⟩
      · have hno2 : Hid (∀ t, t < k + 1 → numI s t ≠ num) := Lib.hid (fun t ht => by
          rcases Nat.lt_or_ge t k with h | h
          · exact hno.out t h
          · obtain rfl : t = k := by omega
            exact he)
        have e1 : (numI s k == num) = false := by simpa using he
        clear HA HN HC he hno
        generalize numI s k = z at *
        go_wp2_with fail
        go_roundw
        case rel => exact ⟨k + 1, by go_num, by omega, hno2, by simp⟩
        case measure => simp [intOf]; omega
    · obtain rfl : k = l.length := by omega
      have hR := HN.out hno.out
      subst hR
      go_wp2_with fail
      go_ret
      exact ⟨rfl, rfl⟩
end Go.Proofs.Ytlpdihcgdgkkbaa
