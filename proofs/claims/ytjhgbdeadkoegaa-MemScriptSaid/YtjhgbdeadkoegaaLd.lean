/- Walks: what a memtable is asked: Cost, Lane. -/
import Derived.Test.YtjhgbdeadkoegaaLc
namespace Go.Proofs.Ytjhgbdeadkoegaa
open Go.RowKit Go.St Go.Maps
set_option linter.unusedVariables false
set_option linter.unusedSimpArgs false
set_option maxRecDepth 100000

theorem tcost_no (v : Option Addr) (key : ByteArray) (seq : Int) (w : World) (h : NoT w v) : Calls Try.prog 20 #[.pointer v, .string key, .int .i64 seq] w fun e w' => e = .returned (.int .i64 0) ∧ w = w' := by
  have H := Lib.hid (tnone_yes v w h)
  clear h
  go_enter Try.func20, Try.ntmps20
  go_wp2_with fail
  refine H.out.mono ?_
  rintro e w' ⟨rfl, rfl⟩
  go_wp2_with fail
  go_ret
  exact ⟨rfl, rfl⟩
set_option maxHeartbeats 1600000 in
theorem tcost_any (p T : Nat) (A : Option Addr) (k c : Nat) (hs : List Int) (N : List Nd) (ln sz : Int) (hN : N.length ≤ 100000) (key : ByteArray) (seq : Int) (w : World) (ht : Tbl w p T A k c hs N ln sz) :
    Calls Try.prog 20 #[.pointer (some ⟨T, 0, none⟩), .string key, .int .i64 seq] w fun e w' => e = .returned (.int .i64 ((fnd ⟨key, zB, seq, false⟩ 12 T N).2 : Nat)) ∧ Below w.heap.size w w' := by
  have H := Lib.hid (tnone_no T w (ht.hd.c 20 _ rfl))
  obtain ⟨pv, FS, HPV, HFS, HF⟩ := tfind_ex p T A k c hs N ln sz hN ⟨key, zB, seq, false⟩ w ht
  rw [← HFS.out]
  unfold zB at HF
  clear ht HPV HFS
  go_enter Try.func20, Try.ntmps20
  go_wp2_with fail
  refine H.out.mono ?_
  rintro e w2 ⟨rfl, rfl⟩
  go_wp2_with fail
  refine (HF.out w (Below.refl _ _)).mono ?_
  rintro e w2 ⟨rfl, hb⟩
  have B2 := Lib.hid hb
  clear hb HF
  go_wp2_with fail
  go_ret
  exact ⟨rfl, B2.out.alloc B2.out.size _⟩

def lnI (h : Int) : Nat → List Nd → List Int
  | _, [] => []
  | i, n :: r => if h ≤ (n.t : Int) then (i : Int) :: lnI h (i + 1) r else lnI h (i + 1) r
def lnV (h : Int) (N : List Nd) : List Int := if 1 ≤ h ∧ h ≤ 12 then lnI h 0 N else []
theorem lnI_len (h : Int) : ∀ (N : List Nd) (i : Nat), (lnI h i N).length ≤ N.length
  | [], _ => Nat.le_refl _
  | n :: r, i => by
    have := lnI_len h r (i + 1)
    rw [lnI]
    split <;> simp only [List.length_cons] <;> omega
theorem lnV_len (h : Int) (N : List Nd) : (lnV h N).length ≤ N.length := by
  unfold lnV
  split
  · exact lnI_len h N 0
  · exact Nat.zero_le _
theorem nxd {N : List Nd} (hf : ∀ n ∈ N, n.u = n.t ∧ 1 ≤ n.t ∧ n.t ≤ 12) (i : Nat) : (N.length ≤ i ∧ nxv 0 (N.drop i) = .pointer none) ∨ ∃ n, N[i]? = some n ∧ nxv 0 (N.drop i) = .pointer (some ⟨n.g, 0, none⟩) := by
  rcases Nat.lt_or_ge i N.length with h | h
  · have hn : N[i]? = some N[i] := List.getElem?_eq_getElem h
    refine .inr ⟨N[i], hn, ?_⟩
    rw [drop_at hn, nxv, if_pos (by have := hf N[i] (List.getElem_mem h); omega)]
    rfl
  · exact .inl ⟨h, by rw [List.drop_eq_nil_of_le h]; rfl⟩
theorem tlane_no (v : Option Addr) (h : Int) (w : World) (hn : NoT w v) : Calls Try.prog 19 #[.pointer v, .int .i64 h] w fun e w' => e = .returned (.slice none 0 0) ∧ w = w' := by
  have H := Lib.hid (tnone_yes v w hn)
  clear hn
  go_enter Try.func19, Try.ntmps19
  go_wp2_with fail
  refine H.out.mono ?_
  rintro e w' ⟨rfl, rfl⟩
  go_wp2_with fail
  go_ret
  exact ⟨rfl, rfl⟩
set_option maxHeartbeats 1600000 in
theorem tlane_any (p T : Nat) (A : Option Addr) (k c : Nat) (hs : List Int) (N : List Nd) (ln sz : Int) (hN : N.length ≤ 100000) (h : Int) (w : World) (ht : Tbl w p T A k c hs N ln sz) :
    Calls Try.prog 19 #[.pointer (some ⟨T, 0, none⟩), .int .i64 h] w fun e w' => ∃ v, e = .returned v ∧ w'.ownsRow w.heap.size 3 1 v (lnV h N).length (nv (lnV h N)) ∧ Below w.heap.size w w' := by
  have TB := Lib.hid ht
  have H := Lib.hid (tnone_no T w (ht.hd.c 20 _ rfl))
  have hlt := ht.hd.lt
  clear ht
  by_cases h1 : h < 1
  · have hE : lnV h N = [] := by unfold lnV; rw [if_neg (by omega)]
    rw [hE]
    clear hE
    go_enter Try.func19, Try.ntmps19
    go_wp2_with fail
    refine H.out.mono ?_
    rintro e w' ⟨rfl, rfl⟩
    go_wp2_with fail
    go_ret
    exact ⟨_, rfl, World.ownsRow_nil _ _ _ _, Below.refl _ _⟩
  by_cases h2 : 12 < h
  · have hE : lnV h N = [] := by unfold lnV; rw [if_neg (by omega)]
    rw [hE]
    clear hE
    go_enter Try.func19, Try.ntmps19
    go_wp2_with fail
    refine H.out.mono ?_
    rintro e w' ⟨rfl, rfl⟩
    go_wp2_with fail
    go_ret
    exact ⟨_, rfl, World.ownsRow_nil _ _ _ _, Below.refl _ _⟩
  obtain ⟨E, hE⟩ : ∃ E, E = lnV h N := ⟨_, rfl⟩
  rw [← hE]
  have HE : Hid (E = [] ++ lnI h 0 (N.drop 0)) := Lib.hid (by rw [hE]; unfold lnV; rw [if_pos ⟨by omega, by omega⟩]; rfl)
  have c5 := TB.out.at0.c 0 (by omega)
  clear hE
  go_enter Try.func19, Try.ntmps19
  go_wp2_with fail
  refine H.out.mono ?_
  rintro e w' ⟨rfl, rfl⟩
  go_wp2_with fail
  clear c5
  go_loopw [5, 6, 7] (fun s5 s6 s7 wr => ∃ (A5 : Option Addr) (c5 : Nat) (out : List Int) (i : Nat), s5 = .slice A5 out.length c5 ∧ s6 = .int .i64 (i : Int) ∧ s7 = nxv 0 (N.drop i) ∧ i ≤ N.length ∧ out.length ≤ i ∧ Hid (wr.ownsRow w.heap.size 3 1 (.slice A5 out.length c5) out.length (nv out)) ∧ Hid (E = out ++ lnI h i (N.drop i)) ∧ Hid (Below w.heap.size w wr)) (fun _ s6 _ _ => N.length - (intOf s6).toNat)
  case atStart => exact ⟨none, 0, [], 0, rfl, rfl, rfl, Nat.zero_le _, Nat.le_refl _, Lib.hid (World.ownsRow_nil _ _ _ _), HE, Lib.hid (Below.refl _ _)⟩
  case round =>
    clear HE
    obtain ⟨A5, c5, out, i, rfl, rfl, rfl, hi, hoi, OW, HQ, B2⟩ := hrel
    obtain ⟨w2, rfl⟩ : ∃ x, x = wr := ⟨_, rfl⟩
    rcases nxd TB.out.full i with ⟨g1, g2⟩ | ⟨n, g1, g2⟩
    · rw [g2]
      have SEQ : Hid (E = out) := Lib.hid (by rw [HQ.out, List.drop_eq_nil_of_le g1]; simp [lnI])
      clear HQ g1 g2
      go_wp2_with fail
      go_ret
      exact ⟨_, rfl, by rw [SEQ.out]; exact OW.out, B2.out⟩
    · rw [g2]
      have zn := (TB.out.nd i n g1).lt
      have t4 := (B2.out.cell (p := ⟨n.g, 4, none⟩) zn).trans ((TB.out.nd i n g1).c 4 _ rfl)
      have C0 := Lib.hid ((TB.out.atn g1 (m := 1) (by have := TB.out.full n (List.mem_of_getElem? g1); omega)).c 0 (by omega))
      have c5' := (B2.out.cell (p := ⟨n.g, 5 + 0, none⟩) zn).trans ((TB.out.atn g1 (m := 1) (by have := TB.out.full n (List.mem_of_getElem? g1); omega)).c 0 (by omega))
      have zn2 : n.g < w2.heap.size := Nat.lt_of_lt_of_le zn B2.out.size
      have hin : i < N.length := (List.getElem?_eq_some_iff.1 g1).1
      have HD := Lib.hid (drop_at g1)
      have hs2 := B2.out.size
      clear g1 g2
      by_cases ht : h ≤ (n.t : Int)
      · have HQ9 : Hid (E = (out ++ [(i : Int)]) ++ lnI h (i + 1) (N.drop (i + 1))) := Lib.hid (by rw [HQ.out, HD.out, lnI, if_pos ht]; simp)
        clear HQ HD
        go_wp2_with (at_builtin; refine wpList_app styI (.tmp 37) (.tmp 39) rfl rfl w.heap.size (OW.out.alloc _) rfl 1 1 (rd_frC _ _ _ _) rfl rfl (by simp [Value.oneCell']) (by unfold maxLen; omega) (by omega) (by rw [World.size_alloc]; omega) ?_; intro v5 w5 own5 gr5 nil5 at5; obtain ⟨A6, c6, rfl, -, -⟩ := own_sl own5; have B9 := Lib.hid ((B2.out.alloc hs2 (.cells #[.int .i64 (i : Int)] 3)).grown gr5 (by rw [World.size_alloc]; omega) (fun g e => (OW.out.lt g e).1)); have c9 := (B9.out.cell (p := ⟨n.g, 5 + 0, none⟩) zn).trans C0.out; have z9 : n.g < w5.heap.size := Nat.lt_of_lt_of_le zn B9.out.size)
        have O9 : Hid (w5.ownsRow w.heap.size 3 1 (.slice A6 (out ++ [(i : Int)]).length c6) (out ++ [(i : Int)]).length (nv (out ++ [(i : Int)]))) := Lib.hid (by
          have h := own_eq own5 (m := (out ++ [(i : Int)]).length) (ys := nv (out ++ [(i : Int)])) (by simp) (by rw [nv_app]; rfl)
          rw [List.length_append] at h ⊢
          exact h)
        clear own5 gr5 nil5 at5
        go_roundw
        case rel => exact ⟨A6, c6, out ++ [(i : Int)], i + 1, by rw [List.length_append]; rfl, by go_num, rfl, by omega, by rw [List.length_append]; simp only [List.length_cons, List.length_nil]; omega, O9, HQ9, B9⟩
        case measure => (first | (simp [intOf]; done) | (simp [intOf]; omega))
      · have HQ9 : Hid (E = out ++ lnI h (i + 1) (N.drop (i + 1))) := Lib.hid (by rw [HQ.out, HD.out, lnI, if_neg ht])
        clear HQ HD
        go_wp2_with fail
        go_roundw
        case rel => exact ⟨A5, c5, out, i + 1, rfl, by go_num, rfl, by omega, by omega, OW, HQ9, B2⟩
        case measure => (first | (simp [intOf]; done) | (simp [intOf]; omega))
end Go.Proofs.Ytjhgbdeadkoegaa
