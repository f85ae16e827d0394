/- Walks: what the document's memtable tells. -/
import Derived.Test.YtjhgbdeadkoegaaLr
import Derived.Test.YtjhgbdeadkoegaaEh
namespace Go.Proofs.Ytjhgbdeadkoegaa
open Go.RowKit Go.St Go.Shelf Go.Maps
set_option linter.unusedVariables false
set_option linter.unusedSimpArgs false
set_option maxRecDepth 100000

def tws (L : List Ld) : List Int := L.map (fun x => (x.2 : Int))
theorem tws_len (L : List Ld) : (tws L).length = L.length := List.length_map _
/-- The document's table: block R; its rows' blocks are of S and are not R. -/
def Dt (W : World) (S : Nat → Prop) (R : Nat) (hs : List Int) (L : List Ld) : Prop := ∃ Ah ch Ae ce At ct, BxV W R [.bool true, .slice Ah hs.length ch, .slice Ae L.length ce, .slice At L.length ct] ∧
  Rd W W.heap.size Ah (nv hs) ∧ Rd W W.heap.size Ae (env (L.map Prod.fst)) ∧ Rd W W.heap.size At (nv (tws L)) ∧ S R ∧ (∀ g o, Ah = some ⟨g, o, none⟩ → S g) ∧ (∀ g o, Ae = some ⟨g, o, none⟩ → S g) ∧ (∀ g o, At = some ⟨g, o, none⟩ → S g) ∧ L.length ≤ ce ∧ L.length ≤ ct ∧ (∀ o, Ah ≠ some ⟨R, o, none⟩)
theorem rd_blk {W W' : World} {A : Option Addr} {xs : List Value} (h : Rd W W.heap.size A xs) (hz : W.heap.size ≤ W'.heap.size) (hk : ∀ g o, A = some ⟨g, o, none⟩ → g < W.heap.size → W'.heap[g]? = W.heap[g]?) : Rd W' W'.heap.size A xs := fun hne => by
  obtain ⟨b, o, e, hb, hc⟩ := h hne
  exact ⟨b, o, e, Nat.lt_of_lt_of_le hb hz, fun i v hv => (World.cell?_of_block (a := ⟨b, o + i, none⟩) (hk b o e hb)).trans (hc i v hv)⟩
theorem Dt.keep {W W' : World} {S : Nat → Prop} {R : Nat} {hs : List Int} {L : List Ld} (h : Dt W S R hs L) (hz : W.heap.size ≤ W'.heap.size) (hk : ∀ g, S g → g < W.heap.size → W'.heap[g]? = W.heap[g]?) : Dt W' S R hs L := by
  obtain ⟨Ah, ch, Ae, ce, At, ct, h1, h2, h3, h4, h5, h6, h7, h8, h9⟩ := h
  exact ⟨Ah, ch, Ae, ce, At, ct, bxv_blk h1 hz (hk R h5 h1.lt), rd_blk h2 hz (fun g o e hg => hk g (h6 g o e) hg), rd_blk h3 hz (fun g o e hg => hk g (h7 g o e) hg), rd_blk h4 hz (fun g o e hg => hk g (h8 g o e) hg), h5, h6, h7, h8, h9⟩
theorem Dt.next {W W' : World} {S : Nat → Prop} {R : Nat} {hs : List Int} {L : List Ld} (h : Dt W S R hs L) (hb : Below W.heap.size W W') : Dt W' S R hs L := h.keep hb.size (fun g _ hg => hb.block g hg)
theorem Dt.oth {W W' : World} {S S' : Nat → Prop} {R : Nat} {hs : List Int} {L : List Ld} (h : Dt W S R hs L) (ho : Oth S' W W') (hd : ∀ g, S g → ¬ S' g) : Dt W' S R hs L := h.keep ho.size (fun g h1 h2 => ho.block g h2 (hd g h1))
theorem Dt.mono {W : World} {S S' : Nat → Prop} {R : Nat} {hs : List Int} {L : List Ld} (h : Dt W S R hs L) (hs' : ∀ g, S g → S' g) : Dt W S' R hs L := by
  obtain ⟨Ah, ch, Ae, ce, At, ct, h1, h2, h3, h4, h5, h6, h7, h8, h9⟩ := h
  exact ⟨Ah, ch, Ae, ce, At, ct, h1, h2, h3, h4, hs' _ h5, fun g o e => hs' _ (h6 g o e), fun g o e => hs' _ (h7 g o e), fun g o e => hs' _ (h8 g o e), h9⟩
theorem dnone_any (R : Nat) (w : World) (h : w.cell? ⟨R, 0, none⟩ = some (.bool true)) : Calls Try.prog 45 #[.pointer (some ⟨R, 0, none⟩)] w fun e w' => e = .returned (.bool false) ∧ w = w' := by
  have hl := World.block_lt_of_cell? w _ h
  go_enter Try.func45, Try.ntmps45
  go_wp2_with fail
  go_ret
  exact ⟨rfl, rfl⟩

theorem dall_any (S : Nat → Prop) (R : Nat) (hs : List Int) (L : List Ld) (hL : L.length ≤ 100000) (w : World) (h : Dt w S R hs L) :
    Calls Try.prog 33 #[.pointer (some ⟨R, 0, none⟩)] w fun e w' => ∃ u, e = .returned u ∧ w'.ownsRow w.heap.size 32 4 u L.length (env (L.map Prod.fst)) ∧ Below w.heap.size w w' := by
  obtain ⟨Ah, ch, Ae, ce, At, ct, h1, h2, h3, h4, -⟩ := h
  have H := Lib.hid (dnone_any R w (h1.c 0 _ rfl))
  have c2 := h1.c 2 _ rfl
  have hl := h1.lt
  have RE := Lib.hid h3
  clear h1 h2 h3 h4
  go_enter Try.func33, Try.ntmps33
  go_wp2_with fail
  refine H.out.mono ?_
  rintro e w' ⟨rfl, rfl⟩
  go_wp2_with (at_builtin; refine wpList_app styE (.tmp 5) (.tmp 9) rfl rfl w.heap.size (World.ownsRow_lit w #[] 0 (Nat.le_refl _) (by decide) rfl) rfl L.length ce (Rd.alloc RE.out (Nat.le_refl _) _) rfl (by rw [env_len, List.length_map]) (env_one _) (by unfold maxLen; omega) (by omega) (by simp) ?_; intro v1 w1 own1 gr1 nil1 at1)
  go_ret
  refine ⟨v1, rfl, ?_, ?_⟩
  · have := own_eq own1 (m := L.length) (ys := env (L.map Prod.fst)) (by omega) (by simp)
    exact this
  · exact ((Below.refl _ _).alloc (Nat.le_refl _) _).grown gr1 (by simp) (fun g e => by simp [Value.ownBlock] at e; omega)
theorem dget_any (S : Nat → Prop) (R : Nat) (hs : List Int) (L : List Ld) (hL : L.length ≤ 100000) (key : ByteArray) (seq : Int) (w : World) (h : Dt w S R hs L) :
    Calls Try.prog 48 #[.pointer (some ⟨R, 0, none⟩), .string key, .int .i64 seq] w fun e w' => e = .returned (.tuple #[(fndE (L.map Prod.fst) key seq).v, .bool (isE (L.map Prod.fst) key seq)]) ∧ Below w.heap.size w w' := by
  obtain ⟨Ah, ch, Ae, ce, At, ct, h1, h2, h3, h4, -⟩ := h
  have hc0 := h1.c 0 _ rfl
  have H := Lib.hid (fun W (hb : Below w.heap.size w W) => dnone_any R W ((h1.next hb).c 0 _ rfl))
  have X1 := Lib.hid h1
  have RE := Lib.hid h3
  clear h1 h2 h3 h4 hc0
  generalize hz : fndE (L.map Prod.fst) key seq = z
  generalize hi : isE (L.map Prod.fst) key seq = t
  have HV := Lib.hid (fun W (hb : Below w.heap.size w W) => rvisible_any Ae L.length ce (L.map Prod.fst) (List.length_map _) (by omega) key seq w.heap.size W (RE.out.below hb) hb.size)
  rw [hz, hi, show z.v = .agg #[.string z.key, .string z.val, .int .i64 z.seq, .bool z.del] from rfl] at HV
  rw [show z.v = .agg #[.string z.key, .string z.val, .int .i64 z.seq, .bool z.del] from rfl]
  clear hz hi
  go_enter Try.func48, Try.ntmps48
  go_wp2_with fail
  obtain ⟨bz, hbz'⟩ : ∃ b, b = w.heap.size := ⟨_, rfl⟩
  have X9 : Hid (BxV (w.alloc (.cells #[.string { data := #[] }, .string { data := #[] }, .int .i64 0, .bool false] 32)) bz [.string { data := #[] }, .string { data := #[] }, .int .i64 0, .bool false]) := Lib.hid (by rw [hbz']; exact BxV.new w _ _)
  have B9 : Hid (Below w.heap.size w (w.alloc (.cells #[.string { data := #[] }, .string { data := #[] }, .int .i64 0, .bool false] 32))) := Lib.hid ((Below.refl _ _).alloc (Nat.le_refl _) _)
  have hbz : w.heap.size ≤ bz := by omega
  rw [← hbz']
  clear hbz'
  generalize w.alloc (.cells #[.string { data := #[] }, .string { data := #[] }, .int .i64 0, .bool false] 32) = w1 at *
  refine (H.out w1 B9.out).mono ?_
  rintro e w2 ⟨rfl, rfl⟩
  have c2 := (X1.out.next B9.out).c 2 _ rfl
  have cl := (X1.out.next B9.out).lt
  go_wp2_with fail
  refine (HV.out w1 B9.out).mono ?_
  rintro e w2 ⟨rfl, hb⟩
  have X10 := Lib.hid (X9.out.next hb)
  have B10 := Lib.hid (B9.out.trans (hb.mono B9.out.size))
  clear hb X9 B9 c2 cl
  have q0 := X10.out.c 0 _ rfl
  have q1 := X10.out.c 1 _ rfl
  have q2 := X10.out.c 2 _ rfl
  have q3 := X10.out.c 3 _ rfl
  have qf := X10.out.fz
  have ql := X10.out.lt
  go_wp2_with fail
  change bodyPost _ _ _ _ _ (World.setCells w2 bz 0 [.string z.key, .string z.val, .int .i64 z.seq, .bool z.del])
  have RB := (X10.out.set [.string z.key, .string z.val, .int .i64 z.seq, .bool z.del] rfl)
  have BZ := bel_setCells (b := bz) hbz [.string z.key, .string z.val, .int .i64 z.seq, .bool z.del] 0 _ B10.out
  have r0 := RB.c 0 _ rfl
  have r1 := RB.c 1 _ rfl
  have r2 := RB.c 2 _ rfl
  have r3 := RB.c 3 _ rfl
  generalize World.setCells w2 bz 0 [.string z.key, .string z.val, .int .i64 z.seq, .bool z.del] = wz at *
  exact bodyPost_ret (v := .tuple #[.agg #[.string z.key, .string z.val, .int .i64 z.seq, .bool z.del], .bool t]) (by simp [results, Try.results48, go_sem, r0, r1, r2, r3]) rfl ⟨rfl, BZ⟩
theorem dscan_any (S : Nat → Prop) (R : Nat) (hs : List Int) (L : List Ld) (hL : L.length ≤ 100000) (fr to_ : ByteArray) (seq : Int) (w : World) (h : Dt w S R hs L) :
    Calls Try.prog 50 #[.pointer (some ⟨R, 0, none⟩), .agg #[.string fr, .string to_], .int .i64 seq] w fun e w' => ∃ u, e = .returned u ∧ w'.ownsRow w.heap.size 32 4 u (visE fr to_ seq (L.map Prod.fst)).length (env (visE fr to_ seq (L.map Prod.fst))) ∧ Below w.heap.size w w' := by
  obtain ⟨Ah, ch, Ae, ce, At, ct, h1, h2, h3, h4, -⟩ := h
  have H := Lib.hid (fun W (hb : Below w.heap.size w W) => dnone_any R W ((h1.next hb).c 0 _ rfl))
  have X1 := Lib.hid h1
  have HV := Lib.hid (fun W (hb : Below w.heap.size w W) => rinspan_any Ae L.length ce (L.map Prod.fst) (List.length_map _) (by omega) fr to_ seq w.heap.size W (h3.below hb) hb.size)
  clear h1 h2 h3 h4
  go_enter Try.func50, Try.ntmps50
  go_wp2_with fail
  have S9 : BxV (w.alloc (.cells #[.string fr, .string to_] 39)) w.heap.size [.string fr, .string to_] := BxV.new w _ _
  have B9 : Hid (Below w.heap.size w (w.alloc (.cells #[.string fr, .string to_] 39))) := Lib.hid ((Below.refl _ _).alloc (Nat.le_refl _) _)
  generalize w.alloc (.cells #[.string fr, .string to_] 39) = w1 at *
  refine (H.out w1 B9.out).mono ?_
  rintro e w2 ⟨rfl, rfl⟩
  have c2 := (X1.out.next B9.out).c 2 _ rfl
  have cl := (X1.out.next B9.out).lt
  have s0 := S9.c 0 _ rfl
  have s1 := S9.c 1 _ rfl
  have sl := S9.lt
  go_wp2_with fail
  refine wp_qtail 6 (by kernel_rfl) (by kernel_rfl) ?_
  intro hcg
  simp only [List.take_succ_cons, List.take_zero, List.drop_succ_cons, List.drop_zero]
  repeat (first | go_big_quiet_step (fail) | quiet_step (fail))
  refine wpQuiet_nil ?_
  intro wq hbwq hcwq hfwq
  clear hcg
  have B10 := Lib.hid (B9.out.trans (hbwq.mono B9.out.size))
  clear hbwq hcwq hfwq
  go_wp2_with fail
  refine (HV.out wq B10.out).mono ?_
  rintro e w3 ⟨u, rfl, own, hb⟩
  have OW := Lib.hid (own_base own B10.out.size)
  have B11 := Lib.hid (B10.out.trans (hb.mono B10.out.size))
  clear own hb
  go_wp2_with fail
  go_ret
  exact ⟨u, rfl, OW.out, B11.out⟩
theorem szL_take {L : List Ld} {i : Nat} {x : Ld} (h : L[i]? = some x) : szL (L.take (i + 1)) = szL (L.take i) + (x.1.key.size : Int) + (x.1.val.size : Int) := by
  rw [List.take_add_one, h]
  unfold szL
  simp only [Option.toList, List.map_append, List.map_cons, List.map_nil, List.sum_append, List.sum_cons, List.sum_nil]
  omega
theorem dt_ent {W : World} {A : Option Addr} {L : List Ld} {i : Nat} {x : Ld} (h : Rd W W.heap.size A (env (L.map Prod.fst))) (hx : L[i]? = some x) : ∃ b o, A = some ⟨b, o, none⟩ ∧ b < W.heap.size ∧ EnI W b (o + i * 4) x.1 :=
  en_at h (show (L.map Prod.fst)[i]? = some x.1 by rw [List.getElem?_map, hx]; rfl)
set_option maxHeartbeats 3200000 in
theorem dsize_any (S : Nat → Prop) (R : Nat) (hs : List Int) (L : List Ld) (hL : L.length ≤ 100000) (hok : ∀ x ∈ L, okE x.1 = true) (w : World) (h : Dt w S R hs L) :
    Calls Try.prog 46 #[.pointer (some ⟨R, 0, none⟩)] w fun e w' => e = .returned (.int .i64 (szL L)) ∧ Below w.heap.size w w' := by
  obtain ⟨Ah, ch, Ae, ce, At, ct, h1, h2, h3, h4, -⟩ := h
  have H := Lib.hid (fun W (hb : Below w.heap.size w W) => dnone_any R W ((h1.next hb).c 0 _ rfl))
  have X1 := Lib.hid h1
  have RE := Lib.hid h3
  have HOK := Lib.hid hok
  have HLN := Lib.hid (rfl : L.length = L.length)
  clear h1 h2 h3 h4 hok
  obtain ⟨n, hn⟩ : ∃ n, n = L.length := ⟨_, rfl⟩
  have HN := Lib.hid hn
  rw [← hn] at X1 hL
  clear hn HLN
  go_enter Try.func46, Try.ntmps46
  go_wp2_with fail
  go_loopw [3, 4] (fun s3 s4 wr => ∃ i : Nat, s3 = .int .i64 (szL (L.take i)) ∧ s4 = .int .i64 (i : Int) ∧ i ≤ n ∧ Hid (Below w.heap.size w wr)) (fun _ s4 _ => n - (intOf s4).toNat)
  case atStart => exact ⟨0, rfl, rfl, Nat.zero_le _, Lib.hid (Below.refl _ _)⟩
  case round =>
    obtain ⟨i, rfl, rfl, hi, B1⟩ := hrel
    obtain ⟨w1, rfl⟩ : ∃ x, x = wr := ⟨_, rfl⟩
    have c2 := (X1.out.next B1.out).c 2 _ rfl
    have cl := (X1.out.next B1.out).lt
    by_cases hlt : i < n
    · obtain ⟨x, hx⟩ : ∃ x, L[i]? = some x := ⟨_, List.getElem?_eq_getElem (by rw [← HN.out]; exact hlt)⟩
      obtain ⟨b, off, rfl, hb, hce⟩ := dt_ent RE.out hx
      obtain ⟨d0, d1, d2, d3⟩ := hce.below hb B1.out
      have HST := Lib.hid (szL_take hx)
      have i1 : (i : Int) < (n : Int) := by omega
      have i0 : (0 : Int) ≤ (i : Int) := by omega
      have zb : b < w1.heap.size := Nat.lt_of_lt_of_le hb B1.out.size
      have hz1 := szL_le (L := L.take i) (fun y hy => HOK.out y (List.mem_of_mem_take hy))
      have hz2 := szL_le (L := L.take (i + 1)) (fun y hy => HOK.out y (List.mem_of_mem_take hy))
      rw [List.length_take] at hz1 hz2
      have hz3 := HST.out
      generalize szL (L.take i) = s at *
      have w1' : IntKind.i64.wrap (s + (x.1.key.size : Int)) = s + (x.1.key.size : Int) := IntWalk.i64_in _ (by omega)
      have w2' : IntKind.i64.wrap (s + (x.1.key.size : Int) + (x.1.val.size : Int)) = s + (x.1.key.size : Int) + (x.1.val.size : Int) := IntWalk.i64_in _ (by omega)
      clear hce hx hz1 hz2 hz3
      go_wp2_with fail
      refine (H.out w1 B1.out).mono ?_
      rintro e w2 ⟨rfl, rfl⟩
      go_wp2_with fail
      refine wp_qall (by kernel_rfl) (by kernel_rfl) ?_
      intro hcg
      repeat (first | go_big_quiet_step (fail) | quiet_step (fail))
      refine wpQuiet_nil ?_
      intro wq hbwq hcwq hfwq
      clear hcg
      have B2 := Lib.hid (B1.out.trans (hbwq.mono B1.out.size))
      clear hbwq hcwq hfwq
      go_wp2_with fail
      go_roundw
      case rel => exact ⟨i + 1, by rw [HST.out], by go_num, by omega, B2⟩
      case measure => simp [intOf]; omega
    · obtain rfl : i = n := by omega
      have i1 : ¬ (i : Int) < (i : Int) := by omega
      have HSE : Hid (szL (L.take i) = szL L) := Lib.hid (by rw [HN.out, List.take_length])
      go_wp2_with fail
      refine (H.out w1 B1.out).mono ?_
      rintro e w2 ⟨rfl, rfl⟩
      go_wp2_with fail
      go_ret
      exact ⟨by rw [HSE.out]; rfl, B1.out⟩
end Go.Proofs.Ytjhgbdeadkoegaa
