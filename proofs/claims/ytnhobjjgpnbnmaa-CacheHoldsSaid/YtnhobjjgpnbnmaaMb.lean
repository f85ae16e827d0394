/- Walks: a cache that is there or not; made; its low mark, its marks counted. -/
import Derived.Test.YtnhobjjgpnbnmaaMa
namespace Go.Proofs.Ytnhobjjgpnbnmaa
open Go.RowKit Go.St
set_option linter.unusedVariables false
set_option linter.unusedSimpArgs false
set_option maxRecDepth 100000

theorem st26_any (a b c : Int) (w : World) : Calls Try.prog 18 #[.int .i64 a, .int .i32 b, .int .i32 c] w fun e w' => e = .returned (.agg #[.int .i64 a, .int .i32 b, .int .i32 c]) ∧ Below w.heap.size w w' := by
  go_enter Try.func18, Try.ntmps18
  go_wp2
  refine bodyPost_ret (v := .agg #[.int .i64 a, .int .i32 b, .int .i32 c]) (by simp [results, Try.results18, go_sem]) rfl ⟨rfl, by go_grown⟩
theorem cnone_any {W : World} {base b : Nat} {v : Value} {s : Stp} {l : List Mk} (h : CaB 63 W base b v s l) : Calls Try.prog 27 #[.pointer (some ⟨b, 0, none⟩)] W fun e w' => e = .returned (.bool false) ∧ W = w' := by
  have c0 := h.c0
  clear h
  go_enter Try.func27, Try.ntmps27
  go_wp2
  go_ret
  exact ⟨rfl, rfl⟩
theorem cnone_nil (w : World) : Calls Try.prog 27 #[.pointer none] w fun e w' => e = .returned (.bool true) ∧ w = w' := by
  go_enter Try.func27, Try.ntmps27
  go_wp2
  go_ret
  exact ⟨rfl, rfl⟩
theorem cnone_zero (b : Nat) (w : World) (h : w.cell? ⟨b, 0, none⟩ = some (.bool false)) : Calls Try.prog 27 #[.pointer (some ⟨b, 0, none⟩)] w fun e w' => e = .returned (.bool true) ∧ w = w' := by
  go_enter Try.func27, Try.ntmps27
  go_wp2
  go_ret
  exact ⟨rfl, rfl⟩
theorem rnone_any {W : World} {base b : Nat} {v : Value} {s : Stp} {l : List Mk} (h : CaB 74 W base b v s l) : Calls Try.prog 39 #[.pointer (some ⟨b, 0, none⟩)] W fun e w' => e = .returned (.bool false) ∧ W = w' := by
  have c0 := h.c0
  clear h
  go_enter Try.func39, Try.ntmps39
  go_wp2
  go_ret
  exact ⟨rfl, rfl⟩
theorem rnone_nil (w : World) : Calls Try.prog 39 #[.pointer none] w fun e w' => e = .returned (.bool true) ∧ w = w' := by
  go_enter Try.func39, Try.ntmps39
  go_wp2
  go_ret
  exact ⟨rfl, rfl⟩
theorem rnone_zero (b : Nat) (w : World) (h : w.cell? ⟨b, 0, none⟩ = some (.bool false)) : Calls Try.prog 39 #[.pointer (some ⟨b, 0, none⟩)] w fun e w' => e = .returned (.bool true) ∧ w = w' := by
  go_enter Try.func39, Try.ntmps39
  go_wp2
  go_ret
  exact ⟨rfl, rfl⟩
theorem cnew_no (s : Stp) (h : chk s ≠ 0) (w : World) : Calls Try.prog 8 #[.agg #[.int .i64 s.wall, .int .i32 s.logic, .int .i32 s.tag]] w fun e w' => e = .returned (.tuple #[.pointer none, .int .i64 (chk s)]) ∧ Below w.heap.size w w' := by
  have H := Lib.hid (fun W => hcheck_any s W)
  generalize chk s = E at *
  have e1 : (E == 0) = false := by simpa using h
  go_enter Try.func8, Try.ntmps8
  go_wp2_with fail
  refine (H.out _).mono ?_
  rintro e w1 ⟨rfl, hb⟩
  obtain ⟨hcw1, hfw1⟩ := bcell hb
  have HBw1 : Hid (Below w.heap.size w w1) := Below.go (by go_grown) hb (by go_size)
  have hzw10 : w.heap.size < w1.heap.size := by have := hb.size; (try simp at this); omega
  have HEw1 := Lib.hid hb
  clear hb
  go_wp2
  go_ret2
  exact ⟨rfl, HBw1.out⟩
theorem cnew_ok (s : Stp) (h : chk s = 0) (w : World) : Calls Try.prog 8 #[.agg #[.int .i64 s.wall, .int .i32 s.logic, .int .i32 s.tag]] w fun e w' => ∃ b, e = .returned (.tuple #[.pointer (some ⟨b, 0, none⟩), .int .i64 0]) ∧ CaB 63 w' w.heap.size b (.slice none 0 0) s [] ∧ Below w.heap.size w w' := by
  have H := Lib.hid (fun W => hcheck_any s W)
  rw [h] at H
  go_enter Try.func8, Try.ntmps8
  go_wp2_with fail
  refine (H.out _).mono ?_
  rintro e w1 ⟨rfl, hb⟩
  obtain ⟨hcw1, hfw1⟩ := bcell hb
  have HBw1 : Hid (Below w.heap.size w w1) := Below.go (by go_grown) hb (by go_size)
  have hzw10 : w.heap.size < w1.heap.size := by have := hb.size; (try simp at this); omega
  have HEw1 := Lib.hid hb
  clear hb
  go_wp2
  go_ret2
  have hs := HBw1.out.size
  refine ⟨_, rfl, ?_, by have hb := HBw1.out; go_grown⟩
  refine ⟨by simp, hs, fun o => by simp, by simp, by simp, by simp, by simp, by simp, ⟨rfl, .inl ⟨rfl, rfl⟩⟩, by simp [Value.ownBlock], by simp⟩
theorem rnew_no (s : Stp) (h : chk s ≠ 0) (w : World) : Calls Try.prog 20 #[.agg #[.int .i64 s.wall, .int .i32 s.logic, .int .i32 s.tag]] w fun e w' => e = .returned (.tuple #[.pointer none, .int .i64 (chk s)]) ∧ Below w.heap.size w w' := by
  have H := Lib.hid (fun W => rcheck_any s W)
  generalize chk s = E at *
  have e1 : (E == 0) = false := by simpa using h
  go_enter Try.func20, Try.ntmps20
  go_wp2_with fail
  refine (H.out _).mono ?_
  rintro e w1 ⟨rfl, hb⟩
  obtain ⟨hcw1, hfw1⟩ := bcell hb
  have HBw1 : Hid (Below w.heap.size w w1) := Below.go (by go_grown) hb (by go_size)
  have hzw10 : w.heap.size < w1.heap.size := by have := hb.size; (try simp at this); omega
  have HEw1 := Lib.hid hb
  clear hb
  go_wp2
  go_ret2
  exact ⟨rfl, HBw1.out⟩
theorem rnew_ok (s : Stp) (h : chk s = 0) (w : World) : Calls Try.prog 20 #[.agg #[.int .i64 s.wall, .int .i32 s.logic, .int .i32 s.tag]] w fun e w' => ∃ b, e = .returned (.tuple #[.pointer (some ⟨b, 0, none⟩), .int .i64 0]) ∧ CaB 74 w' w.heap.size b (.slice none 0 0) s [] ∧ Below w.heap.size w w' := by
  have H := Lib.hid (fun W => rcheck_any s W)
  rw [h] at H
  go_enter Try.func20, Try.ntmps20
  go_wp2_with fail
  refine (H.out _).mono ?_
  rintro e w1 ⟨rfl, hb⟩
  obtain ⟨hcw1, hfw1⟩ := bcell hb
  have HBw1 : Hid (Below w.heap.size w w1) := Below.go (by go_grown) hb (by go_size)
  have hzw10 : w.heap.size < w1.heap.size := by have := hb.size; (try simp at this); omega
  have HEw1 := Lib.hid hb
  clear hb
  go_wp2
  go_ret2
  have hs := HBw1.out.size
  refine ⟨_, rfl, ?_, by have hb := HBw1.out; go_grown⟩
  refine ⟨by simp, hs, fun o => by simp, by simp, by simp, by simp, by simp, by simp, ⟨rfl, .inl ⟨rfl, rfl⟩⟩, by simp [Value.ownBlock], by simp⟩
theorem clow_any {W : World} {base b : Nat} {v : Value} {s : Stp} {l : List Mk} (h : CaB 63 W base b v s l) : Calls Try.prog 19 #[.pointer (some ⟨b, 0, none⟩)] W fun e w' => e = .returned (.agg #[.int .i64 s.wall, .int .i32 s.logic, .int .i32 s.tag]) ∧ Below W.heap.size W w' := by
  have HN := Lib.hid (fun X (k : Below W.heap.size W X) => cnone_any (h.next k))
  have hlt := h.lt
  have hne : b ≠ W.heap.size := by omega
  obtain ⟨c1, c2, c3⟩ := (⟨h.c1, h.c2, h.c3⟩ : _ ∧ _ ∧ _)
  clear h
  go_enter Try.func19, Try.ntmps19
  go_wp2_with fail
  refine (HN.out _ (by go_grown)).mono ?_
  rintro e w' ⟨rfl, rfl⟩
  clear HN
  go_wp2
  refine bodyPost_ret (v := .agg #[.int .i64 s.wall, .int .i32 s.logic, .int .i32 s.tag]) (by simp [results, Try.results19, go_sem]) rfl ⟨rfl, by go_grown⟩
theorem rlow_any {W : World} {base b : Nat} {v : Value} {s : Stp} {l : List Mk} (h : CaB 74 W base b v s l) : Calls Try.prog 23 #[.pointer (some ⟨b, 0, none⟩)] W fun e w' => e = .returned (.agg #[.int .i64 s.wall, .int .i32 s.logic, .int .i32 s.tag]) ∧ Below W.heap.size W w' := by
  have HN := Lib.hid (fun X (k : Below W.heap.size W X) => rnone_any (h.next k))
  have hlt := h.lt
  have hne : b ≠ W.heap.size := by omega
  obtain ⟨c1, c2, c3⟩ := (⟨h.c1, h.c2, h.c3⟩ : _ ∧ _ ∧ _)
  clear h
  go_enter Try.func23, Try.ntmps23
  go_wp2_with fail
  refine (HN.out _ (by go_grown)).mono ?_
  rintro e w' ⟨rfl, rfl⟩
  clear HN
  go_wp2
  refine bodyPost_ret (v := .agg #[.int .i64 s.wall, .int .i32 s.logic, .int .i32 s.tag]) (by simp [results, Try.results23, go_sem]) rfl ⟨rfl, by go_grown⟩
theorem clen_any {W : World} {base b : Nat} {v : Value} {s : Stp} {l : List Mk} (h : CaB 63 W base b v s l) : Calls Try.prog 17 #[.pointer (some ⟨b, 0, none⟩)] W fun e w' => e = .returned (.int .i64 l.length) ∧ W = w' := by
  have HN := Lib.hid (cnone_any h)
  obtain ⟨A, c, rfl, -, -, -⟩ := h.row
  have c4 := h.c4
  clear h
  go_enter Try.func17, Try.ntmps17
  go_wp2_with fail
  refine HN.out.mono ?_
  rintro e w' ⟨rfl, rfl⟩
  clear HN
  go_wp2
  go_ret
  exact ⟨rfl, rfl⟩
theorem rlen_any {W : World} {base b : Nat} {v : Value} {s : Stp} {l : List Mk} (h : CaB 74 W base b v s l) : Calls Try.prog 24 #[.pointer (some ⟨b, 0, none⟩)] W fun e w' => e = .returned (.int .i64 l.length) ∧ W = w' := by
  have HN := Lib.hid (rnone_any h)
  obtain ⟨A, c, rfl, -, -, -⟩ := h.row
  have c4 := h.c4
  clear h
  go_enter Try.func24, Try.ntmps24
  go_wp2_with fail
  refine HN.out.mono ?_
  rintro e w' ⟨rfl, rfl⟩
  clear HN
  go_wp2
  go_ret
  exact ⟨rfl, rfl⟩
/- Of a cache that is not there, or that nobody made. -/
theorem cread_nil (f t : ByteArray) (s : Stp) (nd nu : Int) (w : World) : Calls Try.prog 10 #[.pointer none, .agg #[.string f, .string t], .agg #[.int .i64 s.wall, .int .i32 s.logic, .int .i32 s.tag], .agg #[.int .i32 nd, .int .i32 nu]] w fun e w' => e = .returned (.int .i64 1) ∧ Below w.heap.size w w' := by
  go_enter Try.func10, Try.ntmps10
  go_wp2_with fail
  refine (cnone_nil _).mono ?_
  rintro e w' ⟨rfl, rfl⟩
  go_wp2
  go_ret
  exact ⟨rfl, by go_grown⟩
theorem craise_nil (s : Stp) (w : World) : Calls Try.prog 11 #[.pointer none, .agg #[.int .i64 s.wall, .int .i32 s.logic, .int .i32 s.tag]] w fun e w' => e = .returned (.int .i64 1) ∧ Below w.heap.size w w' := by
  go_enter Try.func11, Try.ntmps11
  go_wp2_with fail
  refine (cnone_nil _).mono ?_
  rintro e w' ⟨rfl, rfl⟩
  go_wp2
  go_ret
  exact ⟨rfl, by go_grown⟩
theorem cat_nil (k : ByteArray) (nd nu : Int) (w : World) : Calls Try.prog 15 #[.pointer none, .string k, .agg #[.int .i32 nd, .int .i32 nu]] w fun e w' => e = .returned (.agg #[.int .i64 0, .int .i32 0, .int .i32 0]) ∧ Below w.heap.size w w' := by
  go_enter Try.func15, Try.ntmps15
  go_wp2_with fail
  refine (cnone_nil _).mono ?_
  rintro e w' ⟨rfl, rfl⟩
  go_wp2
  refine bodyPost_ret (v := .agg #[.int .i64 0, .int .i32 0, .int .i32 0]) (by simp [results, Try.results15, go_sem]) rfl ⟨rfl, by go_grown⟩
theorem clow_nil (w : World) : Calls Try.prog 19 #[.pointer none] w fun e w' => e = .returned (.agg #[.int .i64 0, .int .i32 0, .int .i32 0]) ∧ Below w.heap.size w w' := by
  go_enter Try.func19, Try.ntmps19
  go_wp2_with fail
  refine (cnone_nil _).mono ?_
  rintro e w' ⟨rfl, rfl⟩
  go_wp2
  refine bodyPost_ret (v := .agg #[.int .i64 0, .int .i32 0, .int .i32 0]) (by simp [results, Try.results19, go_sem]) rfl ⟨rfl, by go_grown⟩
theorem clen_nil (w : World) : Calls Try.prog 17 #[.pointer none] w fun e w' => e = .returned (.int .i64 0) ∧ w = w' := by
  go_enter Try.func17, Try.ntmps17
  go_wp2_with fail
  refine (cnone_nil _).mono ?_
  rintro e w' ⟨rfl, rfl⟩
  go_wp2
  go_ret
  exact ⟨rfl, rfl⟩
theorem cread_zero (f t : ByteArray) (s : Stp) (nd nu : Int) (b : Nat) (w : World)(h : w.cell? ⟨b, 0, none⟩ = some (.bool false)) : Calls Try.prog 10 #[.pointer (some ⟨b, 0, none⟩), .agg #[.string f, .string t], .agg #[.int .i64 s.wall, .int .i32 s.logic, .int .i32 s.tag], .agg #[.int .i32 nd, .int .i32 nu]] w fun e w' => e = .returned (.int .i64 1) ∧ Below w.heap.size w w' := by
  go_enter Try.func10, Try.ntmps10
  go_wp2_with fail
  refine (cnone_zero b _ (by have hlt : b < w.heap.size := World.block_lt_of_cell? w _ h; exact (Below.cell (B := w.heap.size) (w := w) (p := ⟨b, 0, none⟩) (by go_grown) hlt).trans h)).mono ?_
  rintro e w' ⟨rfl, rfl⟩
  go_wp2
  go_ret
  exact ⟨rfl, by go_grown⟩
theorem craise_zero (s : Stp) (b : Nat) (w : World)(h : w.cell? ⟨b, 0, none⟩ = some (.bool false)) : Calls Try.prog 11 #[.pointer (some ⟨b, 0, none⟩), .agg #[.int .i64 s.wall, .int .i32 s.logic, .int .i32 s.tag]] w fun e w' => e = .returned (.int .i64 1) ∧ Below w.heap.size w w' := by
  go_enter Try.func11, Try.ntmps11
  go_wp2_with fail
  refine (cnone_zero b _ (by have hlt : b < w.heap.size := World.block_lt_of_cell? w _ h; exact (Below.cell (B := w.heap.size) (w := w) (p := ⟨b, 0, none⟩) (by go_grown) hlt).trans h)).mono ?_
  rintro e w' ⟨rfl, rfl⟩
  go_wp2
  go_ret
  exact ⟨rfl, by go_grown⟩
theorem cat_zero (k : ByteArray) (nd nu : Int) (b : Nat) (w : World)(h : w.cell? ⟨b, 0, none⟩ = some (.bool false)) : Calls Try.prog 15 #[.pointer (some ⟨b, 0, none⟩), .string k, .agg #[.int .i32 nd, .int .i32 nu]] w fun e w' => e = .returned (.agg #[.int .i64 0, .int .i32 0, .int .i32 0]) ∧ Below w.heap.size w w' := by
  go_enter Try.func15, Try.ntmps15
  go_wp2_with fail
  refine (cnone_zero b _ (by have hlt : b < w.heap.size := World.block_lt_of_cell? w _ h; exact (Below.cell (B := w.heap.size) (w := w) (p := ⟨b, 0, none⟩) (by go_grown) hlt).trans h)).mono ?_
  rintro e w' ⟨rfl, rfl⟩
  go_wp2
  refine bodyPost_ret (v := .agg #[.int .i64 0, .int .i32 0, .int .i32 0]) (by simp [results, Try.results15, go_sem]) rfl ⟨rfl, by go_grown⟩
theorem clow_zero (b : Nat) (w : World)(h : w.cell? ⟨b, 0, none⟩ = some (.bool false)) : Calls Try.prog 19 #[.pointer (some ⟨b, 0, none⟩)] w fun e w' => e = .returned (.agg #[.int .i64 0, .int .i32 0, .int .i32 0]) ∧ Below w.heap.size w w' := by
  go_enter Try.func19, Try.ntmps19
  go_wp2_with fail
  refine (cnone_zero b _ (by have hlt : b < w.heap.size := World.block_lt_of_cell? w _ h; exact (Below.cell (B := w.heap.size) (w := w) (p := ⟨b, 0, none⟩) (by go_grown) hlt).trans h)).mono ?_
  rintro e w' ⟨rfl, rfl⟩
  go_wp2
  refine bodyPost_ret (v := .agg #[.int .i64 0, .int .i32 0, .int .i32 0]) (by simp [results, Try.results19, go_sem]) rfl ⟨rfl, by go_grown⟩
theorem clen_zero (b : Nat) (w : World)(h : w.cell? ⟨b, 0, none⟩ = some (.bool false)) : Calls Try.prog 17 #[.pointer (some ⟨b, 0, none⟩)] w fun e w' => e = .returned (.int .i64 0) ∧ w = w' := by
  go_enter Try.func17, Try.ntmps17
  go_wp2_with fail
  refine (cnone_zero b _ (by have hlt : b < w.heap.size := World.block_lt_of_cell? w _ h; exact (Below.cell (B := w.heap.size) (w := w) (p := ⟨b, 0, none⟩) (by go_grown) hlt).trans h)).mono ?_
  rintro e w' ⟨rfl, rfl⟩
  go_wp2
  go_ret
  exact ⟨rfl, rfl⟩
end Go.Proofs.Ytnhobjjgpnbnmaa
