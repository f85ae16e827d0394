/- Plain: what becomes of a record; what a contract says of a record that is told. -/
import Derived.Test.YthigmjcepbgljaaPm
namespace Go.Proofs.Ythigmjcepbgljaa
open Go.RowKit Go.St
set_option linter.unusedVariables false
set_option linter.unusedSimpArgs false

/-- Reads as cells that lie at block B0 or above. -/
def RdN (w : World) (B0 : Nat) (A : Option Addr) (xs : List Value) : Prop :=
  xs ≠ [] → ∃ b off, A = some ⟨b, off, none⟩ ∧ B0 ≤ b ∧ b < w.heap.size ∧ ∀ i v, xs[i]? = some v → w.cell? ⟨b, off + i, none⟩ = some v
theorem RdN.nil {w : World} {B : Nat} {A : Option Addr} : RdN w B A [] := fun h => absurd rfl h
theorem RdN.rd {w : World} {B : Nat} {A : Option Addr} {xs : List Value} (h : RdN w B A xs) : Rd w w.heap.size A xs := fun hn => by
  obtain ⟨b, off, e, _, hb, hc⟩ := h hn
  exact ⟨b, off, e, hb, hc⟩
theorem RdN.next {w w' : World} {B : Nat} {A : Option Addr} {xs : List Value} (h : RdN w B A xs) (hb : Below w.heap.size w w') : RdN w' B A xs := fun hn => by
  obtain ⟨b, off, e, h0, h1, hc⟩ := h hn
  exact ⟨b, off, e, h0, Nat.lt_of_lt_of_le h1 hb.size, fun i v hv => (hb.cell (p := ⟨b, off + i, none⟩) h1).trans (hc i v hv)⟩
theorem RdN.mono {w : World} {B B' : Nat} {A : Option Addr} {xs : List Value} (h : RdN w B A xs) (hB : B' ≤ B) : RdN w B' A xs := fun hn => by
  obtain ⟨b, off, e, h0, h1, hc⟩ := h hn
  exact ⟨b, off, e, Nat.le_trans hB h0, h1, hc⟩
/-- Only one block has changed, and not this one. -/
theorem RdN.keep {w w' : World} {B : Nat} {A : Option Addr} {xs : List Value} (h : RdN w B A xs) (hs : w.heap.size ≤ w'.heap.size) (hk : ∀ p : Addr, B ≤ p.block → p.block < w.heap.size → w'.cell? p = w.cell? p) : RdN w' B A xs := fun hn => by
  obtain ⟨b, off, e, h0, h1, hc⟩ := h hn
  exact ⟨b, off, e, h0, Nat.lt_of_lt_of_le h1 hs, fun i v hv => (hk ⟨b, off + i, none⟩ h0 h1).trans (hc i v hv)⟩

/-- A record with a status, a stamp and keys. -/
def endR (r : Rec) (s : Int) (a : Stp) (n : Nat) (l : List ByteArray) : Rec := ⟨r.nd, r.nu, s, a, none, n, 0, l, r.beat, r.pu⟩
def zeR : Rec := ⟨0, 0, 0, ⟨0, 0, 0⟩, none, 0, 0, [], 0, ⟨0, 0, 0⟩⟩
def eqL (a b : List ByteArray) : Bool := a.map ByteArray.toList == b.map ByteArray.toList
def bothE (r x : Rec) : Int := if chkR r ≠ 0 then chkR r else chkR x
def stgR (r : Rec) (a : Stp) (n : Nat) (l : List ByteArray) (wall : Int) : Rec := ⟨r.nd, r.nu, 2, a, none, n, 0, l, wall, r.pu⟩
def stageE (r : Rec) (a : Stp) (n : Nat) (l : List ByteArray) (wall : Int) : Int :=
  if bothE r (stgR r a n l wall) ≠ 0 then bothE r (stgR r a n l wall) else if r.st = 3 then 320 else if r.st = 4 then 14 else
  if r.st = 2 then (if r.at_ = a ∧ eqL r.l l = true then 0 else 10) else if less r.pu a then 0 else 322
def stageO (r : Rec) (a : Stp) (n : Nat) (l : List ByteArray) (wall : Int) : Rec := if stageE r a n l wall = 0 then stgR r a n l wall else zeR
def commitE (r : Rec) (a : Stp) (n : Nat) (l : List ByteArray) : Int :=
  if bothE r (endR r 3 a n l) ≠ 0 then bothE r (endR r 3 a n l) else if r.st = 3 then (if r.at_ = a ∧ eqL r.l l = true then 0 else 10) else if r.st = 4 then 14 else
  if r.st = 2 then (if less a r.at_ = false ∧ eqL r.l l = true then 0 else 10) else if less r.pu a then 0 else 322
def commitO (r : Rec) (a : Stp) (n : Nat) (l : List ByteArray) : Rec := if commitE r a n l = 0 then endR r 3 a n l else zeR
def overO (r : Rec) : Rec := endR r 4 ⟨0, 0, 0⟩ 0 []
def abortE (r : Rec) : Int := if chkR r ≠ 0 then chkR r else if r.st = 3 then 320 else 0
def abortO (r : Rec) : Rec := if abortE r = 0 then overO r else zeR
def killE (r : Rec) : Int := if chkR r ≠ 0 then chkR r else if r.st = 3 then 320 else if r.st = 2 then 321 else 0
def killO (r : Rec) : Rec := if killE r = 0 then overO r else zeR
def pushE (r : Rec) (a : Stp) : Int := if chkR r ≠ 0 then chkR r else if chk a ≠ 0 then chk a else if r.st = 3 then 320 else if r.st = 4 then 14 else if r.st = 2 then 321 else 0
def pushO (r : Rec) (a : Stp) : Rec := if pushE r a = 0 then { endR r r.st r.at_ r.n r.l with pu := maxS r.pu a } else zeR
def settleE (r : Rec) (a : Stp) : Int := if chkR r ≠ 0 then chkR r else if r.st = 3 then 320 else if r.st = 4 then 14 else if r.st = 2 ∧ r.at_ = a then 0 else 10
def settleO (r : Rec) (a : Stp) (whole : Bool) : Rec := if settleE r a = 0 then (if whole then endR r 3 a r.n r.l else overO r) else zeR
def beatE (r : Rec) (wall : Int) : Int := if chkR r ≠ 0 then chkR r else if wall < 0 ∨ 1099511627776 < wall then 2 else if r.st = 3 then 320 else if r.st = 4 then 14 else 0
def beatO (r : Rec) (wall : Int) : Rec := if beatE r wall = 0 then { endR r r.st r.at_ r.n r.l with beat := max r.beat wall } else zeR
def frR (nd nu wall : Int) : Rec := ⟨nd, nu, 1, ⟨0, 0, 0⟩, none, 0, 0, [], wall, ⟨0, 0, 0⟩⟩
def freshE (nd nu wall : Int) : Int := if chkR (frR nd nu wall) ≠ 0 then 2 else 0
def freshO (nd nu wall : Int) : Rec := if freshE nd nu wall = 0 then frR nd nu wall else zeR

/-- A record's value, its keys lying at A. -/
def Rec.to (r : Rec) (A : Option Addr) (c : Nat) : Rec := { r with A := A, c := c }
/-- A record and an error are told; the record's keys lie in new memory. -/
def OutR (r : Rec) (err : Int) (w : World) (e : Ending) (w' : World) : Prop :=
  ∃ A c, e = .returned (.tuple #[(r.to A c).v, .int .i64 err]) ∧ RdN w' w.heap.size A (sv r.l) ∧ Below w.heap.size w w'
/-- The same of a record alone. -/
def OutQ (r : Rec) (w : World) (e : Ending) (w' : World) : Prop :=
  ∃ A c, e = .returned (r.to A c).v ∧ RdN w' w.heap.size A (sv r.l) ∧ Below w.heap.size w w'

def fit (r : Rec) : Prop := r.l.length = r.n
theorem fit_ze : fit zeR := rfl
theorem fit_stage (r : Rec) (a : Stp) {n : Nat} {l : List ByteArray} (h : l.length = n) (wall : Int) : fit (stageO r a n l wall) := by unfold stageO; split; exact h; rfl
theorem fit_commit (r : Rec) (a : Stp) {n : Nat} {l : List ByteArray} (h : l.length = n) : fit (commitO r a n l) := by unfold commitO; split; exact h; rfl
theorem fit_abort (r : Rec) : fit (abortO r) := by unfold abortO; split <;> rfl
theorem fit_kill (r : Rec) : fit (killO r) := by unfold killO; split <;> rfl
theorem fit_push {r : Rec} (h : fit r) (a : Stp) : fit (pushO r a) := by unfold pushO; split; exact h; rfl
theorem fit_settle {r : Rec} (h : fit r) (a : Stp) (b : Bool) : fit (settleO r a b) := by unfold settleO; split; split; exact h; rfl; rfl
theorem fit_beat {r : Rec} (h : fit r) (wall : Int) : fit (beatO r wall) := by unfold beatO; split; exact h; rfl
theorem fit_fresh (nd nu wall : Int) : fit (freshO nd nu wall) := by unfold freshO; split <;> rfl

/-- Where a record lies does not matter. -/
theorem okR_to (r : Rec) (A : Option Addr) (c : Nat) : okR (r.to A c) = okR r := rfl
theorem chkR_to (r : Rec) (A : Option Addr) (c : Nat) : chkR (r.to A c) = chkR r := rfl
end Go.Proofs.Ythigmjcepbgljaa
