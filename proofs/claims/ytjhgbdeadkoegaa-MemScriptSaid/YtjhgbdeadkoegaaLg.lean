/- A range over a memtable's All: the iterator's walk for every loop body; the statement's law. -/
import Derived.Test.YtjhgbdeadkoegaaLf
import Derived.RangeFuncNested
import Derived.RangeFuncBound
import Derived.RangeFuncCalls
import Derived.RangeFuncLeaves
import Derived.Shelf.Abstract
import Derived.Shelf.RegionOpen
import Derived.OwnWalkIn
import Derived.TacticsInMore
import Derived.LoopNIn
import Derived.LoopIn
namespace Go.Proofs.Ytjhgbdeadkoegaa
open Go.RowKit Go.St Go.Shelf Go.Maps
set_option linter.unusedVariables false
set_option linter.unusedSimpArgs false
set_option maxRecDepth 100000
attribute [local go_sem] Oper.semAt_some

/-- What goes over all of a table, nobody's or made. -/
def Itr (W : World) (v : Option Addr) (ls : List Ent) : Prop := (NoT W v ∧ ls = []) ∨ ∃ p T A k c hs N ln sz, v = some ⟨T, 0, none⟩ ∧ Tbl W p T A k c hs N ln sz ∧ ls = N.map Nd.e
theorem Itr.next {W W' : World} {v : Option Addr} {ls : List Ent} (h : Itr W v ls) (hb : Below W.heap.size W W') : Itr W' v ls := by
  rcases h with ⟨h1, h2⟩ | ⟨p, T, A, k, c, hs, N, ln, sz, h1, h2, h3⟩
  · exact .inl ⟨h1.next hb, h2⟩
  · exact .inr ⟨p, T, A, k, c, hs, N, ln, sz, h1, h2.next hb, h3⟩
/-- How many nodes there are from a pointer on. -/
def leftM : List Nat → Nat → Nat
  | [], _ => 0
  | x :: r, g => if x = g then r.length + 1 else leftM r g
theorem leftM_at : ∀ {gs : List Nat} {k g : Nat}, gs.Nodup → gs[k]? = some g → leftM gs g = gs.length - k
  | [], _, _, _, h => by simp at h
  | x :: r, 0, g, _, h => by
    have e : x = g := by simpa using h
    rw [leftM, if_pos e]
    simp
  | x :: r, k + 1, g, hd, h => by
    rw [List.nodup_cons] at hd
    have h1 : r[k]? = some g := by simpa using h
    rw [leftM, if_neg (fun e => hd.1 (by rw [e]; exact List.mem_of_getElem? h1)), leftM_at hd.2 h1, List.length_cons]
    omega
def ptM (gs : List Nat) : Value → Nat
  | .pointer (some a) => leftM gs a.block
  | _ => 0
theorem ptM_nxv {N : List Nd} (hf : ∀ n ∈ N, n.u = n.t ∧ 1 ≤ n.t ∧ n.t ≤ 12) (hd : (N.map Nd.g).Nodup) (k : Nat) : ptM (N.map Nd.g) (nxv 0 (N.drop k)) = N.length - k := by
  rcases nxd hf k with ⟨h1, h2⟩ | ⟨n, h1, h2⟩
  · rw [h2]
    show 0 = _
    omega
  · rw [h2]
    show leftM (N.map Nd.g) n.g = _
    rw [leftM_at hd (k := k) (by rw [List.getElem?_map, h1]; rfl), List.length_map]
set_option maxHeartbeats 2000000 in
theorem all1_in (n : Nat) (hn : 2 ≤ n) (l Bx : Nat) (v : Option Addr) (ls : List Ent) (h6 : ls.length ≤ 100000) (w0 : World) (hi : Itr w0 v ls) (J Jx : Nat → World → Prop)
    (hJb : ∀ k W, J k W → Below w0.heap.size w0 W)
    (hY : ∀ k (W : World) x, J k W → ls[k]? = some x → YieldAt Fence.wide (n - 1) Try.prog l #[.agg #[.string x.key, .string x.val, .int .i64 x.seq, .bool x.del]] W fun e W' =>
      (e = .returned (.bool true) ∧ J (k + 1) W') ∨ (e = .returned (.bool false) ∧ Jx (k + 1) W'))
    (W : World) (hBx : W.cell? ⟨Bx, 0, none⟩ = some (.pointer v)) (h0 : J 0 W) :
    CallsIn Fence.wide n Try.prog 51 #[.func (.yield l) #[] #[], .pointer (some ⟨Bx, 0, none⟩)] W fun e W' => (∃ v, e = .returned v) ∧
      (J ls.length W' ∨ ∃ k, k < ls.length ∧ Jx (k + 1) W') := by
  have zBx := World.block_lt_of_cell? W _ hBx
  rcases hi with ⟨hno, rfl⟩ | ⟨p, T, A, k9, c9, hs, N, ln, sz, rfl, ht, rfl⟩
  · have H := Lib.hid (tnone_yes v W (hno.next (hJb 0 W h0)))
    have HJ := Lib.hid h0
    clear hno hJb hY h0
    refine callsIn_of_wp Try.func51 rfl trivial ?_ rfl
    simp only [Try.ntmps51, List.size_toArray, List.length_cons, List.length_nil, Nat.reduceAdd, Nat.reduceSub, Array.replicate_succ, Array.replicate_zero, List.push_toArray, List.append_toArray, List.nil_append, List.cons_append]
    gi_wp2
    refine ⟨trivial, fun _ => by omega, (callsIn_wide.2 H.out).mono ?_⟩
    rintro e W2 ⟨rfl, rfl⟩
    gi_wp2
    refine bodyPost_ret (results_none rfl _ _ _) rfl ?_
    exact ⟨⟨_, rfl⟩, .inl HJ.out⟩
  · have TB := Lib.hid ht
    have H := Lib.hid (tnone_no T W ((ht.next (hJb 0 W h0)).hd.c 20 _ rfl))
    have HJB := Lib.hid hJb
    have HY := Lib.hid hY
    have HJ := Lib.hid h0
    have c5 := (TB.out.next (hJb 0 W h0)).at0.c 0 (by omega)
    have zT := (TB.out.next (hJb 0 W h0)).hd.lt
    rw [List.length_map] at h6
    rw [List.length_map]
    clear ht hJb hY h0
    refine callsIn_of_wp Try.func51 rfl trivial ?_ rfl
    simp only [Try.ntmps51, List.size_toArray, List.length_cons, List.length_nil, Nat.reduceAdd, Nat.reduceSub, Array.replicate_succ, Array.replicate_zero, List.push_toArray, List.append_toArray, List.nil_append, List.cons_append]
    gi_wp2
    refine ⟨trivial, fun _ => by omega, (callsIn_wide.2 H.out).mono ?_⟩
    rintro e W2 ⟨rfl, rfl⟩
    gi_wp2
    clear c5 zT hBx zBx H
    gi_loopw [3] (fun s3 wr => ∃ k : Nat, s3 = nxv 0 (N.drop k) ∧ k ≤ N.length ∧ Hid (J k wr)) (fun s3 _ => ptM (N.map Nd.g) s3)
    case atStart => exact ⟨0, rfl, Nat.zero_le _, HJ⟩
    case round =>
      clear HJ
      obtain ⟨k, rfl, hk, hj⟩ := hrel
      obtain ⟨w4, rfl⟩ : ∃ x, x = wr := ⟨_, rfl⟩
      rcases nxd TB.out.full k with ⟨g1, g2⟩ | ⟨m, g1, g2⟩
      · rw [g2]
        obtain rfl : k = N.length := by omega
        gi_wp2
        go_returns
        exact ⟨⟨_, rfl⟩, .inl hj.out⟩
      · have HM : Hid (ptM (N.map Nd.g) (nxv 0 (N.drop k)) = N.length - k) := Lib.hid (ptM_nxv TB.out.full (List.nodup_cons.1 TB.out.dis).2 k)
        have HP : Hid (ptM (N.map Nd.g) (nxv 0 (N.drop (k + 1))) = N.length - (k + 1)) := Lib.hid (ptM_nxv TB.out.full (List.nodup_cons.1 TB.out.dis).2 (k + 1))
        rw [g2] at HM ⊢
        have B4 := HJB.out _ _ hj.out
        obtain ⟨d0, d1, d2, d3⟩ := (TB.out.ent g1).below (TB.out.nd k m g1).lt B4
        simp only [Nat.zero_add] at d1 d2 d3
        have zn := (TB.out.nd k m g1).lt
        have zn4 : m.g < w4.heap.size := Nat.lt_of_lt_of_le zn B4.size
        have C0 := Lib.hid ((TB.out.atn g1 (m := 1) (by have := TB.out.full m (List.mem_of_getElem? g1); omega)).c 0 (by omega))
        have hin : k < N.length := (List.getElem?_eq_some_iff.1 g1).1
        have hkk : (N.map Nd.e)[k]? = some m.e := by rw [List.getElem?_map, g1]; rfl
        obtain ⟨fn, tmps, assign, body, hy, hR⟩ := HY.out k _ m.e hj.out hkk
        have HR := Lib.hid hR
        clear hR hkk g1 g2 B4
        gi_wp2
        refine ⟨fun _ => by omega, HR.out.mono ?_⟩
        rintro e W3 (⟨rfl, hJ3⟩ | ⟨rfl, hJx3⟩)
        · have J3 := Lib.hid hJ3
          have c5 := ((HJB.out _ _ hJ3).cell (p := ⟨m.g, 5 + 0, none⟩) zn).trans C0.out
          have z3 : m.g < W3.heap.size := Nat.lt_of_lt_of_le zn (HJB.out _ _ hJ3).size
          clear hJ3 hy HR
          gi_wp2
          refine ⟨⟨k + 1, rfl, by omega, J3⟩, ?_⟩
          rw [HM.out]
          show ptM (N.map Nd.g) (nxv 0 (N.drop (k + 1))) < _
          rw [HP.out]
          omega
        · have J3 := Lib.hid hJx3
          clear hJx3 hy HR
          gi_wp2
          refine bodyPost_ret (results_none rfl _ _ _) rfl ?_
          exact ⟨⟨_, rfl⟩, .inr ⟨k, hin, J3.out⟩⟩
end Go.Proofs.Ytjhgbdeadkoegaa
