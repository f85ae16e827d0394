/- Walks: what refuses a record; a record over; killed. -/
import Derived.Test.YthigmjcepbgljaaPg0
import Derived.Deep.RegionHeld3
namespace Go.Proofs.Ythigmjcepbgljaa
open Go.RowKit Go.St
set_option linter.unusedVariables false
set_option linter.unusedSimpArgs false
set_option maxRecDepth 100000

def iv (l : List Int) : List Value := l.map (Value.int .u8)
theorem iv_get (l : List Int) (i : Nat) (h : i < l.length) : (iv l)[i]? = some (.int .u8 l[i]) := by simp [iv, h]

set_option maxHeartbeats 400000 in
theorem sindex_no (A : Option Addr) (n c B : Nat) (l : List Int) (hl : l.length = n) (hn : n ≤ 1000000) (k : Int) (hk : k ∉ l) (w : World) (hr : Rd w B A (iv l)) :
    Calls Try.prog 89 #[.slice A n c, .int .u8 k] w fun e w' => e = .returned (.int .i64 (-1)) ∧ w = w' := by
  have HL := Lib.hid hl; clear hl
  have HR := Lib.hid hr; clear hr
  have HK := Lib.hid hk; clear hk
  go_enter Try.func89, Try.ntmps89
  go_wp2_with fail
  go_loop [8] (fun i => ∃ j : Nat, j ≤ n ∧ i = .int .i64 j) (fun i => n - (intOf i).toNat)
  case atStart => exact ⟨0, Nat.zero_le _, rfl⟩
  case round =>
    obtain ⟨j, hj, rfl⟩ := hrel
    by_cases hlt : j < n
    · have hjl : j < l.length := by rw [HL.out]; exact hlt
      obtain ⟨b, off, rfl, hb, hcell⟩ := HR.out.at_ (iv_get l j hjl)
      have hne : k ≠ l[j] := fun e => HK.out (by rw [e]; exact List.getElem_mem hjl)
      have e0 : (k == l[j]) = false := by simpa using hne
      generalize l[j] = s at *
      go_wp2
      exact ⟨⟨j + 1, by omega, by go_num⟩, by simp [intOf]; omega⟩
    · obtain rfl : n = j := by omega
      go_wp2
      go_ret
      exact ⟨rfl, rfl⟩
theorem scontains_no (A : Option Addr) (n c B : Nat) (l : List Int) (hl : l.length = n) (hn : n ≤ 1000000) (k : Int) (hk : k ∉ l) (w : World) (hr : Rd w B A (iv l)) :
    Calls Try.prog 85 #[.slice A n c, .int .u8 k] w fun e w' => e = .returned (.bool false) ∧ w = w' := by
  have H := Lib.hid (sindex_no A n c B l hl hn k hk w hr); clear hr hl hk
  go_enter Try.func85, Try.ntmps85
  go_wp2_with fail
  refine H.out.mono ?_
  rintro e w' ⟨rfl, rfl⟩
  go_wp2
  go_ret
  exact ⟨rfl, rfl⟩
theorem refused_no (r : Rec) (A : Option Addr) (n c B : Nat) (l : List Int) (hl : l.length = n) (hn : n ≤ 1000000) (hk : r.st ∉ l) (w : World) (hr : Rd w B A (iv l)) (hB : B ≤ w.heap.size) :
    Calls Try.prog 65 #[r.v, .slice A n c] w fun e w' => e = .returned (.int .i64 0) ∧ Below w.heap.size w w' := by
  obtain ⟨nd, nu, st, ⟨aw, al, ag⟩, A0, n0, c0, l0, beat, ⟨pw, pl, pg⟩⟩ := r
  unfold Rec.v
  simp only at hk ⊢
  have H := Lib.hid (scontains_no A n c B l hl hn st hk _ (hr.alloc hB (.cells #[.int .i32 nd, .int .i32 nu, .int .u8 st, .int .i64 aw, .int .i32 al, .int .i32 ag, .slice A0 n0 c0, .int .i64 beat, .int .i64 pw, .int .i32 pl, .int .i32 pg] 30)))
  clear hr hl hk
  go_enter Try.func65, Try.ntmps65
  go_wp2_with fail
  refine H.out.mono ?_
  rintro e w' ⟨rfl, rfl⟩
  go_wp2
  go_ret
  exact ⟨rfl, (Below.refl _ _).alloc (Nat.le_refl _) _⟩

/-- A record over. -/
def overR (r : Rec) : Rec := ⟨r.nd, r.nu, 4, ⟨0, 0, 0⟩, none, 0, 0, [], r.beat, r.pu⟩
theorem over_any (r : Rec) (w : World) : Calls Try.prog 67 #[r.v] w fun e w' => e = .returned (overR r).v ∧ Below w.heap.size w w' := by
  obtain ⟨nd, nu, st, ⟨aw, al, ag⟩, A0, n0, c0, l0, beat, ⟨pw, pl, pg⟩⟩ := r
  unfold Rec.v overR
  simp only
  go_enter Try.func67, Try.ntmps67
  go_wp2
  refine bodyPost_ret (v := .agg #[.int .i32 nd, .int .i32 nu, .int .u8 4, .int .i64 0, .int .i32 0, .int .i32 0, .slice none 0 0, .int .i64 beat, .int .i64 pw, .int .i32 pl, .int .i32 pg]) (by simp [results, Try.results67, go_sem]) rfl ⟨rfl, ?_⟩
  go_grown

theorem rd_new8 (w : World) (a b : Int) (t : TypeId) : Rd (w.alloc (.cells #[.int .u8 a, .int .u8 b] t)) (w.heap.size + 1) (some ⟨w.heap.size, 0, none⟩) (iv [a, b]) := by
  intro _
  refine ⟨w.heap.size, 0, rfl, by omega, fun i v hv => ?_⟩
  rw [World.cell?_alloc_mark]
  simpa [iv] using hv
theorem rd_new8c (w : World) (a b c : Int) (t : TypeId) : Rd (w.alloc (.cells #[.int .u8 a, .int .u8 b, .int .u8 c] t)) (w.heap.size + 1) (some ⟨w.heap.size, 0, none⟩) (iv [a, b, c]) := by
  intro _
  refine ⟨w.heap.size, 0, rfl, by omega, fun i v hv => ?_⟩
  rw [World.cell?_alloc_mark]
  simpa [iv] using hv
theorem kill_ok (r : Rec) (hl : r.l.length = r.n) (B : Nat) (hc : chkR r = 0) (h3 : r.st ≠ 3) (h2 : r.st ≠ 2) (w : World) (hr : Rd w B r.A (sv r.l)) (hB : B ≤ w.heap.size) :
    Calls Try.prog 40 #[r.v] w fun e w' => e = .returned (.tuple #[(overR r).v, .int .i64 0]) ∧ Below w.heap.size w w' := by
  have H1 := Lib.hid (fun W (h : Below w.heap.size w W) => by
    have := reccheck_any r hl B W (hr.below (h.mono hB)) (Nat.le_trans hB h.size)
    rw [hc] at this
    exact this)
  have H2 := Lib.hid (fun A n c B (hl : 2 = n) W (h : Rd W B A (iv [3, 2])) hB => refused_no r A n c B [3, 2] hl (by omega) (by simp; exact ⟨h3, h2⟩) W h hB)
  have H3 := Lib.hid (fun W => over_any r W)
  clear hr hl hc h3 h2
  obtain ⟨nd, nu, st, ⟨aw, al, ag⟩, A0, n0, c0, l0, beat, ⟨pw, pl, pg⟩⟩ := r
  unfold Rec.v overR at *
  simp only at H1 H2 H3 ⊢
  go_enter Try.func40, Try.ntmps40
  go_wp2_with fail
  refine (H1.out _ (by go_grown)).mono ?_
  rintro e w1 ⟨rfl, hb⟩
  obtain ⟨hcw1, hfw1⟩ := bcell hb
  have HBw1 : Hid (Below w.heap.size w w1) := Below.go (by go_grown) hb (by go_size)
  have hzw10 : w.heap.size < w1.heap.size := by have := hb.size; (try simp at this); omega
  have hzw11 : w.heap.size + 1 < w1.heap.size := by have := hb.size; (try simp at this); omega
  have HEw1 := Lib.hid hb
  clear hb
  have rdn := rd_new8 w1 3 2 25
  have RDN := Lib.hid rdn; clear rdn
  go_wp2_with fail
  refine (H2.out _ 2 2 _ rfl _ RDN.out (by simp)).mono ?_
  rintro e w2 ⟨rfl, hb⟩
  obtain ⟨hcw2, hfw2⟩ := bcell hb
  have HBw2 : Hid (Below w.heap.size w w2) := Below.go (by have hpre := HBw1.out; have hps := hpre.size; go_grown) hb (by have hpre := HBw1.out; have hps := hpre.size; go_size)
  have hzw20 : w.heap.size < w2.heap.size := by have := hb.size; (try simp at this); omega
  have hzw21 : w.heap.size + 1 < w2.heap.size := by have := hb.size; (try simp at this); omega
  have HEw2 := Lib.hid hb
  clear hb
  go_wp2_with fail
  refine (H3.out _).mono ?_
  rintro e w3 ⟨rfl, hb⟩
  obtain ⟨hcw3, hfw3⟩ := bcell hb
  have HBw3 : Hid (Below w.heap.size w w3) := Below.go (by have hpre := HBw2.out; have hps := hpre.size; go_grown) hb (by have hpre := HBw2.out; have hps := hpre.size; go_size)
  have hzw30 : w.heap.size < w3.heap.size := by have := hb.size; (try simp at this); omega
  have hzw31 : w.heap.size + 1 < w3.heap.size := by have := hb.size; (try simp at this); omega
  have HEw3 := Lib.hid hb
  clear hb
  go_wp2
  refine bodyPost_ret (v := .tuple #[.agg #[.int .i32 nd, .int .i32 nu, .int .u8 4, .int .i64 0, .int .i32 0, .int .i32 0, .slice none 0 0, .int .i64 beat, .int .i64 pw, .int .i32 pl, .int .i32 pg], .int .i64 0]) (by simp [results, Try.results40, go_sem, *]) rfl ⟨rfl, ?_⟩
  have hb := HBw3.out
  have hbs := hb.size
  go_grown
end Go.Proofs.Ythigmjcepbgljaa
