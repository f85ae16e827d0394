/- Plain law: what is written reads back. -/
import Derived.Test.YtdmpimgbnhgiaaaZEq

namespace Go.Proofs.Ytdmpimgbnhgiaaa
open Go.RowKit Go.St Go.Maps
set_option linter.unusedVariables false
set_option linter.unusedSimpArgs false

theorem drop_left' {α : Type} (a b : List α) : (a ++ b).drop a.length = b := by simp
theorem smU_at {v : Nat} (h : v < 18446744073709551616) {most : Int} (hm : (v : Int) ≤ most) (r s : List UInt8) (e : s = uv v ++ r) : smU s most = some (v, (uv v).length) ∧ s.drop (uv v).length = r := by
  subst e
  exact ⟨smU_uv h hm r, drop_left' _ _⟩
theorem pT_at (B : List UInt8) (n : Nat) (hB : B.length = n) (h : n < 18446744073709551616) {most : Int} (hm : (n : Int) ≤ most) (r s : List UInt8) (e : s = uv n ++ (B ++ r)) : pT most s = some (⟨B.toArray⟩, r) := by
  obtain ⟨h1, h2⟩ := smU_at h hm (B ++ r) s e
  unfold pT
  rw [h1, Option.bind_some]
  dsimp only
  rw [h2, if_neg (by rw [List.length_append]; omega)]
  subst hB
  rw [List.take_left', drop_left']
  rfl
theorem key_cut {p x : ByteArray} {k : Nat} (hk : p.data.toList.take k = x.data.toList.take k) : p.extract 0 k ++ ⟨(x.data.toList.drop k).toArray⟩ = x := by
  have h : ∀ (a b : ByteArray), a.data.toList = b.data.toList → a = b := fun a b h => by
    cases a; cases b
    simp only at h
    rw [Array.toList_inj.1 h]
  refine h _ _ ?_
  rw [ByteArray.data_append, Array.toList_append, Lib.extract_data, List.drop_zero, Nat.sub_zero, hk]
  show List.take k _ ++ ((x.data.toList.drop k).toArray).toList = _
  rw [List.take_append_drop]
theorem kEnc_cut (i : Nat) (p : ByteArray) (x : Ent) : p.data.toList.take (kEnc i p x) = x.key.data.toList.take (kEnc i p x) ∧ kEnc i p x ≤ p.size := by
  unfold kEnc
  split
  · simp
  · have h := shrL_le p.data.toList x.key.data.toList
    exact ⟨shrL_take _ _, by simpa using h.1⟩
theorem pE_at {i : Nat} {p : ByteArray} {x : Ent} (hx : okE x = true) (hp : p.size ≤ 1000000) (r : List UInt8) : pE p (encE i p x ++ r) = some (x, r) := by
  obtain ⟨q1, q2, q3, q4, q5, q6⟩ := okE_b hx
  obtain ⟨hk1, hk2⟩ := kEnc_cut i p x
  have hk3 := kEnc_le i p x
  have e : encE i p x ++ r = uv (kEnc i p x) ++ (uv (x.key.size - kEnc i p x) ++ (x.key.data.toList.drop (kEnc i p x) ++ (uv x.seq.toNat ++ (tEnc x ++ r)))) := by
    unfold encE
    simp only [List.append_assoc]
  obtain ⟨s1, s2⟩ := smU_at (most := p.size) (show kEnc i p x < 18446744073709551616 by omega) (by omega) _ _ e
  have hlen : (x.key.data.toList.drop (kEnc i p x)).length = x.key.size - kEnc i p x := by rw [List.length_drop, Array.length_toList]; rfl
  have t1 := pT_at _ _ hlen (by omega) (most := 512) (by omega) (uv x.seq.toNat ++ (tEnc x ++ r)) _ rfl
  obtain ⟨s3, s4⟩ := smU_at (most := 1073741824) (show x.seq.toNat < 18446744073709551616 by omega) (by omega) (tEnc x ++ r) _ rfl
  have hsq : ((x.seq.toNat : Nat) : Int) = x.seq := by omega
  unfold pE
  rw [s1, Option.bind_some]
  dsimp only
  rw [s2, t1, Option.bind_some]
  dsimp only
  rw [s3, Option.bind_some]
  dsimp only
  rw [s4, key_cut hk1, hsq]
  cases hd : x.del
  · have e2 : tEnc x ++ r = uv 0 ++ (uv x.val.size ++ (x.val.data.toList ++ r)) := by
      unfold tEnc
      rw [hd, uv_lt (show 0 < 128 by omega)]
      simp
    obtain ⟨s5, s6⟩ := smU_at (most := 1) (show 0 < 18446744073709551616 by omega) (by omega) _ _ e2
    have t2 := pT_at x.val.data.toList x.val.size (by rw [Array.length_toList]; rfl) (by omega) (most := 4096) (by omega) r _ rfl
    rw [s5, Option.bind_some]
    dsimp only
    rw [if_neg (by omega), s6, t2, Option.bind_some]
    obtain ⟨x1, ⟨⟨x2⟩⟩, x3, x4⟩ := x
    dsimp only at hd ⊢
    rw [hd]
  · have e2 : tEnc x ++ r = uv 1 ++ r := by
      unfold tEnc
      rw [hd, uv_lt (show 1 < 128 by omega)]
      simp
    obtain ⟨s5, s6⟩ := smU_at (most := 1) (show 1 < 18446744073709551616 by omega) (by omega) _ _ e2
    rw [s5, Option.bind_some]
    dsimp only
    rw [if_pos rfl, s6]
    have hz : x.val = zB := by
      have h := q6 hd
      obtain ⟨x1, ⟨⟨x2⟩⟩, x3, x4⟩ := x
      have h2 : x2.length = 0 := h
      rw [List.eq_nil_of_length_eq_zero h2]
      rfl
    obtain ⟨x1, x2, x3, x4⟩ := x
    dsimp only at hd hz ⊢
    rw [hd, hz]
theorem pL_at : ∀ (l : List Ent) (i : Nat) (p : ByteArray), (∀ x ∈ l, okE x = true) → p.size ≤ 1000000 → pL l.length p (encR i p l) = some (l, [])
  | [], _, _, _, _ => rfl
  | x :: r, i, p, h, hp => by
    have hx := h x (List.mem_cons_self ..)
    show (pE p (encE i p x ++ encR (i + 1) x.key r)).bind _ = _
    rw [pE_at hx hp, Option.bind_some]
    dsimp only
    rw [pL_at r (i + 1) x.key (fun y hy => h y (List.mem_cons_of_mem _ hy)) (by have := (okE_b hx).2.2.2.1; omega)]
    rfl
theorem dec_enc {l : List Ent} (h : chkL l = 0) : decO (encL l) = some l := by
  obtain ⟨h1, h2, h3, h4⟩ := chkL_ok h
  have e : encL l = uv l.length ++ encR 0 zB l := by unfold encL encB; rw [if_pos h]
  obtain ⟨s1, s2⟩ := smU_at (most := 64) (show l.length < 18446744073709551616 by omega) (by omega) _ _ e
  unfold decO pB
  rw [s1, Option.bind_some]
  dsimp only
  rw [s2, pL_at l 0 zB h3 (by decide), Option.bind_some]
  dsimp only
  rw [if_pos ⟨rfl, h, rfl⟩]
theorem dec_ok {bs : List UInt8} {l : List Ent} (h : decO bs = some l) : chkL l = 0 ∧ encL l = bs := by
  unfold decO at h
  cases hp : pB bs with
  | none => rw [hp] at h; cases h
  | some q =>
    rw [hp, Option.bind_some] at h
    split at h
    · rename_i hc
      injection h with h
      subst h
      exact hc.2
    · cases h
theorem encE_len {i : Nat} {p : ByteArray} {x : Ent} (hx : okE x = true) : (encE i p x).length ≤ 5000 := by
  obtain ⟨q1, q2, q3, q4, q5, q6⟩ := okE_b hx
  have hk3 := kEnc_le i p x
  have u1 := uv_len10 (x := kEnc i p x) (by omega)
  have u2 := uv_len10 (x := x.key.size - kEnc i p x) (by omega)
  have u3 := uv_len10 (x := x.seq.toNat) (by omega)
  have u4 := uv_len10 (x := x.val.size) (by omega)
  have k1 : x.key.data.toList.length = x.key.size := by rw [Array.length_toList]; rfl
  have k2 : x.val.data.toList.length = x.val.size := by rw [Array.length_toList]; rfl
  have t : (tEnc x).length ≤ 4200 := by
    unfold tEnc
    split
    · simp
    · rw [List.length_append, List.length_append, k2]
      simp only [List.length_cons, List.length_nil]
      omega
  unfold encE
  rw [List.length_append, List.length_append, List.length_append, List.length_append, List.length_drop, k1]
  omega
theorem encR_len : ∀ (l : List Ent) (i : Nat) (p : ByteArray), (∀ x ∈ l, okE x = true) → (encR i p l).length ≤ l.length * 5000
  | [], _, _, _ => by simp [encR]
  | x :: r, i, p, h => by
    have h1 := encE_len (i := i) (p := p) (h x (List.mem_cons_self ..))
    have h2 := encR_len r (i + 1) x.key (fun y hy => h y (List.mem_cons_of_mem _ hy))
    rw [encR, List.length_append, List.length_cons]
    omega
theorem encL_len (l : List Ent) : (encL l).length ≤ 400000 := by
  unfold encL
  split
  · rename_i h
    obtain ⟨h1, h2, h3, h4⟩ := chkL_ok h
    have := encR_len l 0 zB h3
    have := uv_len10 (x := l.length) (by omega)
    unfold encB
    rw [List.length_append]
    omega
  · simp
end Go.Proofs.Ytdmpimgbnhgiaaa
