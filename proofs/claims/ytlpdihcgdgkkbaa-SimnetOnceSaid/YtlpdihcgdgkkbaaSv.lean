/- Walks: the chapter's first examples. -/
import Derived.Test.YtlpdihcgdgkkbaaSu
import Derived.Lib.SlBytesConst
namespace Go.Proofs.Ytlpdihcgdgkkbaa
open Go.RowKit Go.St
set_option linter.unusedVariables false
set_option linter.unusedSimpArgs false
set_option maxRecDepth 100000

theorem OutP.net {W w' : World} {base b : Nat} {row : Option Nat} {F : Nat → Prop} {s : Nt} (h : OutP base b row F s W w') : ∃ v' F', NetP w' base b v' F' s ∧ Fr b row W w' ∧ (v'.ownBlock = row ∨ ∀ g, v'.ownBlock = some g → W.heap.size ≤ g) ∧ ∀ k, F' k → F k ∨ W.heap.size ≤ k := by
  obtain ⟨h1, v', F', l', h2, h3, h4, h5⟩ := h
  exact ⟨v', F', ⟨l', h3, h2⟩, h1, h4, h5⟩
theorem OutR.net {W w' : World} {base b : Nat} {row : Option Nat} {F : Nat → Prop} {s : Nt} (h : OutR base b row F s W w') : ∃ v' F', NetR w' base b v' F' s ∧ Fr b row W w' ∧ (v'.ownBlock = row ∨ ∀ g, v'.ownBlock = some g → W.heap.size ≤ g) ∧ ∀ k, F' k → F k ∨ W.heap.size ≤ k := by
  obtain ⟨h1, v', F', l', h2, h3, h4, h5⟩ := h
  exact ⟨v', F', ⟨l', h3, h2⟩, h1, h4, h5⟩
theorem NetP.lt {W : World} {base b : Nat} {v : Value} {F : Nat → Prop} {s : Nt} (h : NetP W base b v F s) : base ≤ b ∧ b < W.heap.size := by
  obtain ⟨l, _, h⟩ := h; exact ⟨h.lo, h.lt⟩
theorem NetP.rowlt {W : World} {base b : Nat} {v : Value} {F : Nat → Prop} {s : Nt} (h : NetP W base b v F s) {g : Nat} (hg : v.ownBlock = some g) : base ≤ g ∧ g < W.heap.size := by
  obtain ⟨l, _, h⟩ := h; exact h.own.lt g hg
/-- What was there at the base is there. -/
theorem NetP.fr_below {W w' : World} {base b : Nat} {v : Value} {F : Nat → Prop} {s : Nt} (h : NetP W base b v F s) (hf : Fr b v.ownBlock W w') : Below base W w' := by
  have h1 := h.lt
  exact hf.to_below (by omega) h1.1 (fun g e => (h.rowlt e).1)
theorem ltB_new {W : World} {b g n : Nat} (fr to : Int) (bs : List UInt8) (hl : bs.length = n) (hn : n ≤ 1000000) (c : Nat) (hr : Rd W W.heap.size (some ⟨g, 0, none⟩) (bv bs)) (hne : g ≠ b) : LtB W (fun k => k ≠ b) ⟨⟨0, fr, to, bs⟩, some ⟨g, 0, none⟩, n, c⟩ :=
  LtB.of_rd hl hn hr (fun k o e => by injection e with e; injection e with e1 e2; omega)
theorem rd_fr (w : World) (C : Array Value) (t : TypeId) (fr : Nat × Nat) : Rd (w.alloc (.cells C t fr)) (w.alloc (.cells C t fr)).heap.size (some ⟨w.heap.size, 0, none⟩) C.toList := fun _ => ⟨w.heap.size, 0, rfl, by simp, fun i u hu => by rw [World.cell?_alloc_mark, Nat.zero_add]; simpa using hu⟩
theorem conv_const (w : World) (C : Array Value) (n c b : Nat) (hb : b = w.heap.size) : (convert 22 22 (.slice (some ⟨b, 0, none⟩) n c)).run Try.prog (w.alloc (.cells C 5)) = .ok (.slice (some ⟨b, 0, none⟩) n c) (w.alloc (.cells C 5 (C.size, C.size + 1))) := by
  subst hb
  exact Lib.run_convert_bytes_const (P := Try.prog) w 22 5 C n c Try.underlying22 Try.underlying5
set_option maxHeartbeats 1600000 in
theorem lives25_any (W : World) : Calls Try.prog 33 #[] W fun e w' => e = .returned (.bool true) ∧ Below W.heap.size W w' := by
  have hw0 : Nt.WF ⟨3, 0, []⟩ := newWF 3 (by omega) (by omega)
  have hw1 : Nt.WF ⟨3, 1, [⟨1, 0, 1, [97]⟩]⟩ := hw0.send (fr := 0) (to := 1) (bs := [97]) (by decide)
  have hw2 : Nt.WF ⟨3, 2, [⟨1, 0, 1, [97]⟩, ⟨2, 2, 2, [98]⟩]⟩ := hw1.send (fr := 2) (to := 2) (bs := [98]) (by decide)
  have hw3 : Nt.WF ⟨3, 3, [⟨1, 0, 1, [97]⟩, ⟨2, 2, 2, [98]⟩, ⟨3, 0, 1, [97]⟩]⟩ := hw2.again 1
  have kc := conv_const
  go_enter Try.func33, Try.ntmps33
  go_wp2_with fail
  refine (snew_net 3 (by omega) (by omega) W.heap.size W (Nat.le_refl _)).mono ?_
  rintro e w1 ⟨rfl, hN1, hB1⟩
  have N1 := Lib.hid hN1
  have B1 := Lib.hid hB1
  have l1 := hN1.lt.2
  generalize hq : W.heap.size = q at *
  clear hN1 hB1
  go_wp2_with fail
  have R1 : Rd (w1.alloc (.cells #[.int .u8 97] 5 (1, 2))) (w1.alloc (.cells #[.int .u8 97] 5 (1, 2))).heap.size (some ⟨w1.heap.size, 0, none⟩) (bv [97]) := rd_fr w1 #[.int .u8 97] 5 (1, 2)
  have H1 := ssend_any (N1.out.next ((Below.refl _ _).alloc (Nat.le_refl _) (.cells #[.int .u8 97] 5 (1, 2)))) hw0 (by decide) 0 1 (some ⟨w1.heap.size, 0, none⟩) 1 1 [97] (ltB_new 0 1 [97] rfl (by decide) 1 R1 (by omega))
  refine H1.mono ?_
  rintro e w2 ⟨rfl, ho⟩
  have hB2 : Below q W w2 := (B1.out.alloc (by omega) (.cells #[.int .u8 97] 5 (1, 2))).trans ((N1.out.next ((Below.refl _ _).alloc (Nat.le_refl _) _)).fr_below ho.1)
  obtain ⟨v2, F2, hN2, -, -, -⟩ := ho.net
  change NetP w2 q q v2 F2 ⟨3, 1, [⟨1, 0, 1, [97]⟩]⟩ at hN2
  have l2 := hN2.lt.2
  have N2 := Lib.hid hN2
  have B2 := Lib.hid hB2
  have eV : sendV ⟨3, 0, []⟩ 0 1 = 1 := by decide
  have eE : sendE ⟨3, 0, []⟩ 0 1 = 0 := by decide
  rw [eV, eE]
  clear R1 H1 ho hN2 hB2 N1 B1 eV eE
  go_wp2_with fail
  have R2 : Rd (w2.alloc (.cells #[.int .u8 98] 5 (1, 2))) (w2.alloc (.cells #[.int .u8 98] 5 (1, 2))).heap.size (some ⟨w2.heap.size, 0, none⟩) (bv [98]) := rd_fr w2 #[.int .u8 98] 5 (1, 2)
  have H2 := ssend_any (N2.out.next ((Below.refl _ _).alloc (Nat.le_refl _) (.cells #[.int .u8 98] 5 (1, 2)))) hw1 (by decide) 2 2 (some ⟨w2.heap.size, 0, none⟩) 1 1 [98] (ltB_new 2 2 [98] rfl (by decide) 1 R2 (by omega))
  refine H2.mono ?_
  rintro e w3 ⟨rfl, ho⟩
  have hB3 : Below q W w3 := (B2.out.alloc (by omega) (.cells #[.int .u8 98] 5 (1, 2))).trans ((N2.out.next ((Below.refl _ _).alloc (Nat.le_refl _) _)).fr_below ho.1)
  obtain ⟨v3, F3, hN3, -, -, -⟩ := ho.net
  change NetP w3 q q v3 F3 ⟨3, 2, [⟨1, 0, 1, [97]⟩, ⟨2, 2, 2, [98]⟩]⟩ at hN3
  have l3 := hN3.lt.2
  have N3 := Lib.hid hN3
  have B3 := Lib.hid hB3
  have eV : sendV ⟨3, 1, [⟨1, 0, 1, [97]⟩]⟩ 2 2 = 2 := by decide
  have eE : sendE ⟨3, 1, [⟨1, 0, 1, [97]⟩]⟩ 2 2 = 0 := by decide
  rw [eV, eE]
  clear R2 H2 ho hN3 hB3 N2 B2 eV eE
  go_wp2_with fail
  have H3 := stwice_any N3.out hw2 (by decide) 1
  refine H3.mono ?_
  rintro e w4 ⟨rfl, ho⟩
  have hB4 : Below q W w4 := B3.out.trans (N3.out.fr_below ho.1)
  obtain ⟨v4, F4, hN4, -, -, -⟩ := ho.net
  change NetP w4 q q v4 F4 ⟨3, 3, [⟨1, 0, 1, [97]⟩, ⟨2, 2, 2, [98]⟩, ⟨3, 0, 1, [97]⟩]⟩ at hN4
  have l4 := hN4.lt.2
  have N4 := Lib.hid hN4
  have B4 := Lib.hid hB4
  have eV : againV ⟨3, 2, [⟨1, 0, 1, [97]⟩, ⟨2, 2, 2, [98]⟩]⟩ 1 = 3 := by decide
  have eE : againE ⟨3, 2, [⟨1, 0, 1, [97]⟩, ⟨2, 2, 2, [98]⟩]⟩ 1 = 0 := by decide
  rw [eV, eE]
  clear H3 ho hN4 hB4 N3 B3 eV eE
  go_wp2_with fail
  have H4 := sflight_any N4.out hw3
  refine H4.mono ?_
  rintro e w5 ⟨v5, l5, rfl, hk5, ho5, hf5, hb5⟩
  have B5 : Hid (Below q W w5) := Lib.hid (B4.out.trans (hb5.mono (by omega)))
  obtain ⟨A5, c5, rfl, -, -⟩ := own_sl ho5
  have R5 := hf5.rdL ho5
  have hlen : l5.length = 3 := by have := congrArg List.length hk5; simpa using this
  have K5 := Lib.hid hk5
  have O5 := Lib.hid R5
  rw [hlen]
  have hq5 := B5.out.size
  clear H4 ho5 hf5 hb5 R5 hk5 N4 B4
  go_wp2_with fail
  have z1 : (w5.alloc (.cells #[.int .u8 97] 5 (1, 2))).heap.size = w5.heap.size + 1 := by simp
  have z2 : ((w5.alloc (.cells #[.int .u8 97] 5 (1, 2))).alloc (.cells #[.int .u8 98] 5 (1, 2))).heap.size = w5.heap.size + 1 + 1 := by simp
  have z3 : (((w5.alloc (.cells #[.int .u8 97] 5 (1, 2))).alloc (.cells #[.int .u8 98] 5 (1, 2))).alloc (.cells #[.int .u8 97] 5 (1, 2))).heap.size = w5.heap.size + 1 + 1 + 1 := by simp
  have k1 : Below w5.heap.size w5 (w5.alloc (.cells #[.int .u8 97] 5 (1, 2))) := (Below.refl _ _).alloc (Nat.le_refl _) _
  have k2 : Below w5.heap.size w5 ((w5.alloc (.cells #[.int .u8 97] 5 (1, 2))).alloc (.cells #[.int .u8 98] 5 (1, 2))) := k1.alloc k1.size _
  have k3 : Below w5.heap.size w5 (((w5.alloc (.cells #[.int .u8 97] 5 (1, 2))).alloc (.cells #[.int .u8 98] 5 (1, 2))).alloc (.cells #[.int .u8 97] 5 (1, 2))) := k2.alloc k2.size _
  have k4 : Below w5.heap.size w5 ((((w5.alloc (.cells #[.int .u8 97] 5 (1, 2))).alloc (.cells #[.int .u8 98] 5 (1, 2))).alloc (.cells #[.int .u8 97] 5 (1, 2))).alloc (.cells #[.int .i64 1, .int .i64 0, .int .i64 1, .slice (some ⟨w5.heap.size, 0, none⟩) 1 1, .int .i64 2, .int .i64 2, .int .i64 2, .slice (some ⟨w5.heap.size + 1, 0, none⟩) 1 1, .int .i64 3, .int .i64 0, .int .i64 1, .slice (some ⟨w5.heap.size + 1 + 1, 0, none⟩) 1 1] 51)) := k3.alloc k3.size _
  have b1 := rd_fr w5 #[.int .u8 97] 5 (1, 2)
  have b2 := rd_fr (w5.alloc (.cells #[.int .u8 97] 5 (1, 2))) #[.int .u8 98] 5 (1, 2)
  have b3 := rd_fr ((w5.alloc (.cells #[.int .u8 97] 5 (1, 2))).alloc (.cells #[.int .u8 98] 5 (1, 2))) #[.int .u8 97] 5 (1, 2)
  have b4 := rd_fr (((w5.alloc (.cells #[.int .u8 97] 5 (1, 2))).alloc (.cells #[.int .u8 98] 5 (1, 2))).alloc (.cells #[.int .u8 97] 5 (1, 2))) #[.int .i64 1, .int .i64 0, .int .i64 1, .slice (some ⟨w5.heap.size, 0, none⟩) 1 1, .int .i64 2, .int .i64 2, .int .i64 2, .slice (some ⟨w5.heap.size + 1, 0, none⟩) 1 1, .int .i64 3, .int .i64 0, .int .i64 1, .slice (some ⟨w5.heap.size + 1 + 1, 0, none⟩) 1 1] 51 (0, 0)
  rw [z1] at b2
  rw [z2] at b3
  rw [z3] at b4
  have m1 : Below (w5.alloc (.cells #[.int .u8 97] 5 (1, 2))).heap.size (w5.alloc (.cells #[.int .u8 97] 5 (1, 2))) ((((w5.alloc (.cells #[.int .u8 97] 5 (1, 2))).alloc (.cells #[.int .u8 98] 5 (1, 2))).alloc (.cells #[.int .u8 97] 5 (1, 2))).alloc (.cells #[.int .i64 1, .int .i64 0, .int .i64 1, .slice (some ⟨w5.heap.size, 0, none⟩) 1 1, .int .i64 2, .int .i64 2, .int .i64 2, .slice (some ⟨w5.heap.size + 1, 0, none⟩) 1 1, .int .i64 3, .int .i64 0, .int .i64 1, .slice (some ⟨w5.heap.size + 1 + 1, 0, none⟩) 1 1] 51)) := (((Below.refl _ _).alloc (Nat.le_refl _) _).alloc (by simp) _).alloc (by simp) _
  have m2 : Below ((w5.alloc (.cells #[.int .u8 97] 5 (1, 2))).alloc (.cells #[.int .u8 98] 5 (1, 2))).heap.size ((w5.alloc (.cells #[.int .u8 97] 5 (1, 2))).alloc (.cells #[.int .u8 98] 5 (1, 2))) ((((w5.alloc (.cells #[.int .u8 97] 5 (1, 2))).alloc (.cells #[.int .u8 98] 5 (1, 2))).alloc (.cells #[.int .u8 97] 5 (1, 2))).alloc (.cells #[.int .i64 1, .int .i64 0, .int .i64 1, .slice (some ⟨w5.heap.size, 0, none⟩) 1 1, .int .i64 2, .int .i64 2, .int .i64 2, .slice (some ⟨w5.heap.size + 1, 0, none⟩) 1 1, .int .i64 3, .int .i64 0, .int .i64 1, .slice (some ⟨w5.heap.size + 1 + 1, 0, none⟩) 1 1] 51)) := ((Below.refl _ _).alloc (Nat.le_refl _) _).alloc (by simp) _
  have m3 : Below (((w5.alloc (.cells #[.int .u8 97] 5 (1, 2))).alloc (.cells #[.int .u8 98] 5 (1, 2))).alloc (.cells #[.int .u8 97] 5 (1, 2))).heap.size (((w5.alloc (.cells #[.int .u8 97] 5 (1, 2))).alloc (.cells #[.int .u8 98] 5 (1, 2))).alloc (.cells #[.int .u8 97] 5 (1, 2))) ((((w5.alloc (.cells #[.int .u8 97] 5 (1, 2))).alloc (.cells #[.int .u8 98] 5 (1, 2))).alloc (.cells #[.int .u8 97] 5 (1, 2))).alloc (.cells #[.int .i64 1, .int .i64 0, .int .i64 1, .slice (some ⟨w5.heap.size, 0, none⟩) 1 1, .int .i64 2, .int .i64 2, .int .i64 2, .slice (some ⟨w5.heap.size + 1, 0, none⟩) 1 1, .int .i64 3, .int .i64 0, .int .i64 1, .slice (some ⟨w5.heap.size + 1 + 1, 0, none⟩) 1 1] 51)) := (Below.refl _ _).alloc (Nat.le_refl _) _
  have HH : Hid (RdL ((((w5.alloc (.cells #[.int .u8 97] 5 (1, 2))).alloc (.cells #[.int .u8 98] 5 (1, 2))).alloc (.cells #[.int .u8 97] 5 (1, 2))).alloc (.cells #[.int .i64 1, .int .i64 0, .int .i64 1, .slice (some ⟨w5.heap.size, 0, none⟩) 1 1, .int .i64 2, .int .i64 2, .int .i64 2, .slice (some ⟨w5.heap.size + 1, 0, none⟩) 1 1, .int .i64 3, .int .i64 0, .int .i64 1, .slice (some ⟨w5.heap.size + 1 + 1, 0, none⟩) 1 1] 51)) (some ⟨w5.heap.size + 1 + 1 + 1, 0, none⟩) [⟨⟨1, 0, 1, [97]⟩, some ⟨w5.heap.size, 0, none⟩, 1, 1⟩, ⟨⟨2, 2, 2, [98]⟩, some ⟨w5.heap.size + 1, 0, none⟩, 1, 1⟩, ⟨⟨3, 0, 1, [97]⟩, some ⟨w5.heap.size + 1 + 1, 0, none⟩, 1, 1⟩]) := by
    refine Lib.hid ⟨b4, fun x hx => ?_⟩
    simp only [List.mem_cons, List.not_mem_nil, or_false] at hx
    rcases hx with rfl | rfl | rfl
    · exact ⟨rfl, by simp, (b1.below m1).more m1.size⟩
    · exact ⟨rfl, by simp, (b2.below m2).more m2.size⟩
    · exact ⟨rfl, by simp, (b3.below m3).more m3.size⟩
  have HF := flights_yes A5 (some ⟨w5.heap.size + 1 + 1 + 1, 0, none⟩) c5 3 3 l5 [⟨⟨1, 0, 1, [97]⟩, some ⟨w5.heap.size, 0, none⟩, 1, 1⟩, ⟨⟨2, 2, 2, [98]⟩, some ⟨w5.heap.size + 1, 0, none⟩, 1, 1⟩, ⟨⟨3, 0, 1, [97]⟩, some ⟨w5.heap.size + 1 + 1, 0, none⟩, 1, 1⟩] hlen (by decide) K5.out _ (O5.out.next k4) HH.out
  have hB6 : Hid (Below q W ((((w5.alloc (.cells #[.int .u8 97] 5 (1, 2))).alloc (.cells #[.int .u8 98] 5 (1, 2))).alloc (.cells #[.int .u8 97] 5 (1, 2))).alloc (.cells #[.int .i64 1, .int .i64 0, .int .i64 1, .slice (some ⟨w5.heap.size, 0, none⟩) 1 1, .int .i64 2, .int .i64 2, .int .i64 2, .slice (some ⟨w5.heap.size + 1, 0, none⟩) 1 1, .int .i64 3, .int .i64 0, .int .i64 1, .slice (some ⟨w5.heap.size + 1 + 1, 0, none⟩) 1 1] 51))) := Lib.hid (B5.out.trans (k4.mono (by omega)))
  clear b1 b2 b3 b4 m1 m2 m3 k1 k2 k3 k4 z1 z2 z3
  refine HF.mono ?_
  rintro e w6 ⟨rfl, hb6⟩
  have hB7 : Below q W w6 := hB6.out.trans (hb6.mono (by have := hB6.out.size; omega))
  rw [← hq] at hB7
  have HB := Lib.hid hB7
  clear HF hB6 hb6 hB7
  go_wp2_with fail
  go_ret
  exact ⟨rfl, HB.out⟩
end Go.Proofs.Ytlpdihcgdgkkbaa
