/- The two regions that copy the lists. -/
import Derived.Test.YtgikaglmeeeplaaIv
import Derived.Test.YtgikaglmeeeplaaCut
import Derived.Deep.Cut
namespace Go.Proofs.Ytgikaglmeeeplaa
open Go.RowKit Go.St
set_option linter.unusedVariables false
set_option linter.unusedSimpArgs false
set_option maxRecDepth 100000

theorem own_blkS {w : World} {base size : Nat} {e : TypeId} {v : Value} {n : Nat} {xs : List Value} (h : w.ownsRow base e size v n xs) (h0 : 0 < n) : ∃ g c, v = .slice (some ⟨g, 0, none⟩) n c ∧ n ≤ c ∧ c ≤ maxLen ∧ base ≤ g ∧ g < w.heap.size := by
  rcases h.2 with ⟨rfl, e⟩ | ⟨g, cap, cur, rfl, hb, hg, hc, hm, _⟩
  · exfalso
    have := h.1
    simp_all
  · exact ⟨g, cap, rfl, hc, hm, hb, (h.lt g rfl).2⟩
/-- The cells that stand behind the lists. -/
def bhC : List Value := [.string ⟨#[98, 101, 104, 105, 110, 100]⟩, .int .i64 0, .int .i32 0, .int .i32 0, .string ⟨#[]⟩, .bool false]
def bhI : List Value := [.string ⟨#[98, 101, 104, 105, 110, 100]⟩, .int .i32 0, .int .i32 0, .int .i64 0, .int .i32 0, .int .i32 0, .string ⟨#[]⟩, .int .i64 0, .int .i32 0, .int .i32 0, .string ⟨#[]⟩, .bool false]
/-- A block's cells, in a world. -/
def CB (W : World) (h : Nat) (xs : List Value) : Prop := h < W.heap.size ∧ ∀ i v, xs[i]? = some v → W.cell? ⟨h, i, none⟩ = some v
theorem CB.rd {W : World} {h : Nat} {xs : List Value} (c : CB W h xs) : Rd W W.heap.size (some ⟨h, 0, none⟩) xs := fun _ => ⟨h, 0, rfl, c.1, fun i v hv => by rw [Nat.zero_add]; exact c.2 i v hv⟩
theorem CB.alloc {W : World} {h : Nat} {xs : List Value} (c : CB W h xs) (o : Obj) : CB (W.alloc o) h xs := ⟨by have := c.1; simp; omega, fun i v hv => (((Below.refl W.heap.size W).alloc (Nat.le_refl _) o).cell (p := ⟨h, i, none⟩) c.1).trans (c.2 i v hv)⟩
theorem CB.grown {W W' : World} {h g : Nat} {xs : List Value} (c : CB W h xs) (gr : W.grownBy W' (some g)) (hne : h ≠ g) : CB W' h xs := ⟨Nat.lt_of_lt_of_le c.1 gr.size, fun i v hv => gr.cell (c.2 i v hv) (by intro e; injection e with e; exact hne e)⟩
theorem CB.new (W : World) (C : Array Value) (t : TypeId) : CB (W.alloc (.cells C t)) W.heap.size C.toList := ⟨(BxV.new W C t).lt, (BxV.new W C t).c⟩

theorem cev_one (l : List Cel) : ∀ u ∈ cev l, u.oneCell' = true := by
  intro u hu
  simp only [cev, List.mem_flatten, List.mem_map] at hu
  obtain ⟨_, ⟨c, _, rfl⟩, hu⟩ := hu
  simp [Cel.c] at hu
  rcases hu with rfl | rfl | rfl | rfl | rfl | rfl <;> rfl
theorem itv_one (l : List Itt) : ∀ u ∈ itv l, u.oneCell' = true := by
  intro u hu
  simp only [itv, List.mem_flatten, List.mem_map] at hu
  obtain ⟨_, ⟨c, _, rfl⟩, hu⟩ := hu
  simp [Itt.c] at hu
  rcases hu with rfl | rfl | rfl | rfl | rfl | rfl | rfl | rfl | rfl | rfl | rfl | rfl <;> rfl


/-- A region of a text, by its number. -/
def regOf (n : Nat) : Code → Option Code
  | .region i ops d => if i = n then some (.region i ops d) else none
  | .seq a b => match regOf n a with
    | some c => some c
    | none => regOf n b
  | .cond _ a b => match regOf n a with
    | some c => some c
    | none => regOf n b
  | .block _ c => regOf n c
  | .loop c => regOf n c
  | .scope c => regOf n c
  | _ => none
noncomputable def regC (n : Nat) : Code := (Try.f6.body.bind (regOf n)).getD .skip

set_option maxHeartbeats 6400000 in
theorem copy5_any (W : World) (b : Nat) (A : Option Addr) (n c : Nat) (cs : List Cel) (hl : cs.length = n) (hn : n ≤ 60) (hr : Rd W W.heap.size A (cev cs)) (hb : b < W.heap.size) (x0 : W.cell? ⟨b, 0, none⟩ = some (.slice A n c))
    (c0 c2 c3 c4 c5 c6 c7 c8 c9 c10 c11 c12 c13 c14 c15 c16 c17 c18 c19 c20 c21 c22 c23 c24 c25 c26 c27 c28 c29 c30 c31 c32 c33 c34 c35 c36 c37 c38 c39 c40 c41 c42 c43 c44 c45 c46 c47 c48 c49 c50 c51 c52 c53 c54 c55 c56 c57 c58 c59 c60 c61 c62 c63 c64 c65 c66 c67 c68 c69 c70 c71 c72 c73 c74 c75 c76 c77 c78 c79 c80 c81 c82 c83 c84 c85 c86 c87 c88 c89 c90 c91 c92 c93 c94 c95 c96 c97 c98 c99 c100 c101 c102 c103 c104 c105 c106 c107 c108 c109 c110 c111 c112 c113 c114 c115 c116 c117 c118 c119 c120 c121 c122 c123 c124 c125 c126 c127 c128 c129 c130 c131 c132 c133 c134 c135 c136 c137 c138 c139 c140 c141 c142 c143 c144 c145 c146 c147 c148 c149 c150 c151 c152 c153 c154 c155 c156 c157 c158 c159 c160 c161 c162 c163 c164 c165 c166 c167 c168 c169 c170 c171 c172 c173 c174 c175 c176 c177 c178 c179 c180 c181 c182 c183 c184 c185 c186 c187 c188 c189 c190 c191 c192 c193 c194 c195 c196 c197 c198 c199 c200 c201 c202 c203 c204 c205 c206 c207 c208 c209 c210 c211 c212 c213 c214 c215 c216 c217 c218 c219 c220 c221 c222 c223 c224 c225 c226 c227 c228 c229 c230 c231 c232 c233 c234 c235 c236 c237 c238 c239 c240 c241 c242 c243 c244 c245 c246 c247 c248 c249 c250 c251 c252 c253 c254 c255 c256 c257 c258 c259 c260 c261 c262 c263 c264 c265 c266 c267 c268 c269 c270 c271 c272 c273 c274 c275 c276 c277 c278 c279 c280 c281 : Value) (Q : Exit → Act → World → Prop) (hP : ∀ q (a : Act) (i : Nat) v w, Q (.panic q) (a.put (some i) v) w → Q (.panic q) a w)
    (hQ : ∀ g d (u26 u27 u28 u29 u30 u31 u32 u33 u34 u35 u36 : Value) wc, n + 1 ≤ d → Rd wc wc.heap.size (some ⟨g, 0, none⟩) (cev cs ++ bhC) → Below W.heap.size W wc → Q .normal ⟨#[c0, (.pointer (some ⟨b, 0, none⟩)), c2, (.slice (some ⟨g, 0, none⟩) n d), c4, c5, c6, c7, c8, c9, c10, c11, c12, c13, c14, c15, c16, c17, c18, c19, c20, c21, c22, c23, c24, c25, u26, u27, u28, u29, u30, u31, u32, u33, u34, u35, u36, c37, c38, c39, c40, c41, c42, c43, c44, c45, c46, c47, c48, c49, c50, c51, c52, c53, c54, c55, c56, c57, c58, c59, c60, c61, c62, c63, c64, c65, c66, c67, c68, c69, c70, c71, c72, c73, c74, c75, c76, c77, c78, c79, c80, c81, c82, c83, c84, c85, c86, c87, c88, c89, c90, c91, c92, c93, c94, c95, c96, c97, c98, c99, c100, c101, c102, c103, c104, c105, c106, c107, c108, c109, c110, c111, c112, c113, c114, c115, c116, c117, c118, c119, c120, c121, c122, c123, c124, c125, c126, c127, c128, c129, c130, c131, c132, c133, c134, c135, c136, c137, c138, c139, c140, c141, c142, c143, c144, c145, c146, c147, c148, c149, c150, c151, c152, c153, c154, c155, c156, c157, c158, c159, c160, c161, c162, c163, c164, c165, c166, c167, c168, c169, c170, c171, c172, c173, c174, c175, c176, c177, c178, c179, c180, c181, c182, c183, c184, c185, c186, c187, c188, c189, c190, c191, c192, c193, c194, c195, c196, c197, c198, c199, c200, c201, c202, c203, c204, c205, c206, c207, c208, c209, c210, c211, c212, c213, c214, c215, c216, c217, c218, c219, c220, c221, c222, c223, c224, c225, c226, c227, c228, c229, c230, c231, c232, c233, c234, c235, c236, c237, c238, c239, c240, c241, c242, c243, c244, c245, c246, c247, c248, c249, c250, c251, c252, c253, c254, c255, c256, c257, c258, c259, c260, c261, c262, c263, c264, c265, c266, c267, c268, c269, c270, c271, c272, c273, c274, c275, c276, c277, c278, c279, c280, c281], []⟩ wc) :
    Code.wp Try.prog (regC 5) Q ⟨#[c0, (.pointer (some ⟨b, 0, none⟩)), c2, c3, c4, c5, c6, c7, c8, c9, c10, c11, c12, c13, c14, c15, c16, c17, c18, c19, c20, c21, c22, c23, c24, c25, c26, c27, c28, c29, c30, c31, c32, c33, c34, c35, c36, c37, c38, c39, c40, c41, c42, c43, c44, c45, c46, c47, c48, c49, c50, c51, c52, c53, c54, c55, c56, c57, c58, c59, c60, c61, c62, c63, c64, c65, c66, c67, c68, c69, c70, c71, c72, c73, c74, c75, c76, c77, c78, c79, c80, c81, c82, c83, c84, c85, c86, c87, c88, c89, c90, c91, c92, c93, c94, c95, c96, c97, c98, c99, c100, c101, c102, c103, c104, c105, c106, c107, c108, c109, c110, c111, c112, c113, c114, c115, c116, c117, c118, c119, c120, c121, c122, c123, c124, c125, c126, c127, c128, c129, c130, c131, c132, c133, c134, c135, c136, c137, c138, c139, c140, c141, c142, c143, c144, c145, c146, c147, c148, c149, c150, c151, c152, c153, c154, c155, c156, c157, c158, c159, c160, c161, c162, c163, c164, c165, c166, c167, c168, c169, c170, c171, c172, c173, c174, c175, c176, c177, c178, c179, c180, c181, c182, c183, c184, c185, c186, c187, c188, c189, c190, c191, c192, c193, c194, c195, c196, c197, c198, c199, c200, c201, c202, c203, c204, c205, c206, c207, c208, c209, c210, c211, c212, c213, c214, c215, c216, c217, c218, c219, c220, c221, c222, c223, c224, c225, c226, c227, c228, c229, c230, c231, c232, c233, c234, c235, c236, c237, c238, c239, c240, c241, c242, c243, c244, c245, c246, c247, c248, c249, c250, c251, c252, c253, c254, c255, c256, c257, c258, c259, c260, c261, c262, c263, c264, c265, c266, c267, c268, c269, c270, c271, c272, c273, c274, c275, c276, c277, c278, c279, c280, c281], []⟩ W := by
  have HL := Lib.hid hl
  have HR := Lib.hid hr
  have HQ := Lib.hid hQ
  clear hl hr hQ
  conv => arg 2; whnf
  refine wp_heldall (S := fun X => Below W.heap.size W X) 12 (by kernel_rfl) rfl (Below.drew (Below.refl _ _)) (fun hHeld => ?_)
  refine takeL (i := 1) (v := ?_) rfl (by kernel_rfl) (by kernel_rfl) (by kernel_rfl) (fun _ _ _ h => hP _ _ _ _ _ h) ⟨by rfl, ?_⟩ (by first | assumption | trivial) ?_
  rotate_left
  · intro W9 hSw
    (try dsimp only at hSw)
    have x0' := (hSw.cell (p := ⟨b, 0, none⟩) hb).trans x0
    go_simp
    try with_reducible rfl
  (try simp only [Act.put, List.setIfInBounds_toArray, List.set_cons_zero, List.set_cons_succ])
  refine takeL (i := 2) (v := ?_) rfl (by kernel_rfl) (by kernel_rfl) (by kernel_rfl) (fun _ _ _ h => hP _ _ _ _ _ h) ⟨by rfl, ?_⟩ (by first | assumption | trivial) ?_
  rotate_left
  · intro W9 hSw
    (try dsimp only at hSw)
    have x0' := (hSw.cell (p := ⟨b, 0, none⟩) hb).trans x0
    go_simp
    try with_reducible rfl
  (try simp only [Act.put, List.setIfInBounds_toArray, List.set_cons_zero, List.set_cons_succ])
  refine takeL (i := 4) (v := ?_) rfl (by kernel_rfl) (by kernel_rfl) (by kernel_rfl) (fun _ _ _ h => hP _ _ _ _ _ h) ⟨by rfl, ?_⟩ (by first | assumption | trivial) ?_
  rotate_left
  · intro W9 hSw
    (try dsimp only at hSw)
    have x0' := (hSw.cell (p := ⟨b, 0, none⟩) hb).trans x0
    go_simp
    try with_reducible rfl
  (try simp only [Act.put, List.setIfInBounds_toArray, List.set_cons_zero, List.set_cons_succ])
  refine takeL (i := 7) (v := ?_) rfl (by kernel_rfl) (by kernel_rfl) (by kernel_rfl) (fun _ _ _ h => hP _ _ _ _ _ h) ⟨by rfl, ?_⟩ (by first | assumption | trivial) ?_
  rotate_left
  · intro W9 hSw
    (try dsimp only at hSw)
    have x0' := (hSw.cell (p := ⟨b, 0, none⟩) hb).trans x0
    go_simp
    try with_reducible rfl
  (try simp only [Act.put, List.setIfInBounds_toArray, List.set_cons_zero, List.set_cons_succ])
  refine takeL (i := 8) (v := ?_) rfl (by kernel_rfl) (by kernel_rfl) (by kernel_rfl) (fun _ _ _ h => hP _ _ _ _ _ h) ⟨by rfl, ?_⟩ (by first | assumption | trivial) ?_
  rotate_left
  · intro W9 hSw
    (try dsimp only at hSw)
    have x0' := (hSw.cell (p := ⟨b, 0, none⟩) hb).trans x0
    go_simp
    try with_reducible rfl
  (try simp only [Act.put, List.setIfInBounds_toArray, List.set_cons_zero, List.set_cons_succ])
  refine takeL (i := 9) (v := ?_) rfl (by kernel_rfl) (by kernel_rfl) (by kernel_rfl) (fun _ _ _ h => hP _ _ _ _ _ h) ⟨by rfl, ?_⟩ (by first | assumption | trivial) ?_
  rotate_left
  · intro W9 hSw
    (try dsimp only at hSw)
    have x0' := (hSw.cell (p := ⟨b, 0, none⟩) hb).trans x0
    go_simp
    try with_reducible rfl
  (try simp only [Act.put, List.setIfInBounds_toArray, List.set_cons_zero, List.set_cons_succ])
  have kX := hHeld
  clear hHeld
  generalize W.drew = X at *
  refine wpAnyH_ready (rs := [0, 5]) (by kernel_rfl) (by simp) ?_
  refine consL rfl (by rfl) (fun K hK => ?_) ?_
  · go_simp
    have kX2 : Below W.heap.size W (X.alloc (.cells #[] 45)) := kX.alloc kX.size _
    refine hK.out _ _ kX2 (fun _ => ?_)
    have O1 : (X.alloc (.cells #[] 45)).ownsRow W.heap.size 45 6 (.slice (some ⟨X.heap.size, 0, none⟩) 0 0) 0 [] := World.ownsRow_lit X #[] 0 kX.size (by decide) rfl
    clear hK K kX
    generalize X.alloc (.cells #[] 45) = X2 at *
    generalize X.heap.size = g0 at *
    obtain ⟨X, rfl⟩ : ∃ x, x = X2 := ⟨_, rfl⟩
    have kX := kX2
    clear kX2
    (try simp only [Act.put, List.setIfInBounds_toArray, List.set_cons_zero, List.set_cons_succ])
    refine wpAnyH_ready (rs := [3, 5]) (by kernel_rfl) (by simp) ?_
    refine consL rfl (by rfl) (fun K hK => ?_) ?_
    · refine wp_app styC (.tmp 26) (.tmp 28) rfl W.heap.size O1 rfl n c (HR.out.below kX) rfl (by rw [cev_len, HL.out]) (cev_one _) (by unfold maxLen; omega) (by omega) kX.size ?_
      intro v4 X2 own4 gr4 nil4 at4
      have kX2 : Below W.heap.size W X2 := kX.grown gr4 kX.size (fun g e => (O1.lt g e).1)
      refine hK.out _ _ kX2 (fun _ => ?_)
      have O1' : X2.ownsRow W.heap.size 45 6 v4 n (cev cs) := own_eq own4 (by omega) (by simp)
      clear hK K kX O1 own4 gr4 nil4 at4
      have O1 := O1'
      clear O1'
      obtain ⟨X, rfl⟩ : ∃ x, x = X2 := ⟨_, rfl⟩
      have kX := kX2
      clear kX2
      (try simp only [Act.put, List.setIfInBounds_toArray, List.set_cons_zero, List.set_cons_succ])
      refine wpAnyH_ready (rs := [5]) (by kernel_rfl) (by simp) ?_
      refine consL rfl (by rfl) (fun K hK => ?_) ?_
      · go_simp
        have kX2 : Below W.heap.size W (X.alloc (.cells #[.string ⟨#[98, 101, 104, 105, 110, 100]⟩, .int .i64 0, .int .i32 0, .int .i32 0, .string ⟨#[]⟩, .bool false] 45)) := kX.alloc kX.size _
        refine hK.out _ _ kX2 (fun _ => ?_)
        have C5 : CB (X.alloc (.cells #[.string ⟨#[98, 101, 104, 105, 110, 100]⟩, .int .i64 0, .int .i32 0, .int .i32 0, .string ⟨#[]⟩, .bool false] 45)) X.heap.size bhC := CB.new X #[.string ⟨#[98, 101, 104, 105, 110, 100]⟩, .int .i64 0, .int .i32 0, .int .i32 0, .string ⟨#[]⟩, .bool false] 45
        have O1' := O1.alloc (.cells #[.string ⟨#[98, 101, 104, 105, 110, 100]⟩, .int .i64 0, .int .i32 0, .int .i32 0, .string ⟨#[]⟩, .bool false] 45)
        clear O1
        have O1 := O1'
        clear O1'
        clear hK K kX
        generalize X.alloc (.cells #[.string ⟨#[98, 101, 104, 105, 110, 100]⟩, .int .i64 0, .int .i32 0, .int .i32 0, .string ⟨#[]⟩, .bool false] 45) = X2 at *
        generalize X.heap.size = h5 at *
        obtain ⟨X, rfl⟩ : ∃ x, x = X2 := ⟨_, rfl⟩
        have kX := kX2
        clear kX2
        (try simp only [Act.put, List.setIfInBounds_toArray, List.set_cons_zero, List.set_cons_succ])
        refine wpAnyH_ready (rs := [6]) (by kernel_rfl) (by simp) ?_
        refine consL rfl (by rfl) (fun K hK => ?_) ?_
        · refine wp_app styC (.tmp 29) (.tmp 31) rfl W.heap.size O1 rfl 1 1 C5.rd rfl rfl (by intro u hu; simp [bhC] at hu; rcases hu with rfl | rfl | rfl | rfl | rfl | rfl <;> rfl) (by unfold maxLen; omega) (by omega) kX.size ?_
          intro v6 X2 own6 gr6 nil6 at6
          have kX2 : Below W.heap.size W X2 := kX.grown gr6 kX.size (fun g e => (O1.lt g e).1)
          obtain ⟨g, c2, rfl, hnc, hcm, hg1, hg2⟩ := own_blkS own6 (by omega)
          refine hK.out _ _ kX2 (fun _ => ?_)
          have RX := Lib.hid (own_rdX own6)
          clear hK K kX O1 own6 gr6 nil6 at6
          obtain ⟨X, rfl⟩ : ∃ x, x = X2 := ⟨_, rfl⟩
          have kX := kX2
          clear kX2
          (try simp only [Act.put, List.setIfInBounds_toArray, List.set_cons_zero, List.set_cons_succ])
          have hle : n ≤ c2 := Nat.le_of_succ_le hnc
          refine takeL (i := 10) (v := ?_) rfl (by kernel_rfl) (by kernel_rfl) (by kernel_rfl) (fun _ _ _ h => hP _ _ _ _ _ h) ⟨by rfl, ?_⟩ (by first | assumption | trivial) ?_
          rotate_left
          · intro W9 hSw
            (try dsimp only at hSw)
            go_simp
            try with_reducible rfl
          (try simp only [Act.put, List.setIfInBounds_toArray, List.set_cons_zero, List.set_cons_succ])
          refine takeL (i := 11) (v := ?_) rfl (by kernel_rfl) (by kernel_rfl) (by kernel_rfl) (fun _ _ _ h => hP _ _ _ _ _ h) ⟨by rfl, ?_⟩ (by first | assumption | trivial) ?_
          rotate_left
          · intro W9 hSw
            (try dsimp only at hSw)
            go_simp
            try with_reducible rfl
          (try simp only [Act.put, List.setIfInBounds_toArray, List.set_cons_zero, List.set_cons_succ])
          refine wpAnyH_done (by kernel_rfl) ?_ _
          exact HQ.out _ _ _ _ _ _ _ _ _ _ _ _ _ _ hnc RX.out kX
        · exact AllReadyH.nil
      · exact AllReadyH.nil
    refine consL rfl (by rfl) (fun K hK => ?_) ?_
    · go_simp
      have kX2 : Below W.heap.size W (X.alloc (.cells #[.string ⟨#[98, 101, 104, 105, 110, 100]⟩, .int .i64 0, .int .i32 0, .int .i32 0, .string ⟨#[]⟩, .bool false] 45)) := kX.alloc kX.size _
      refine hK.out _ _ kX2 (fun _ => ?_)
      have C5 : CB (X.alloc (.cells #[.string ⟨#[98, 101, 104, 105, 110, 100]⟩, .int .i64 0, .int .i32 0, .int .i32 0, .string ⟨#[]⟩, .bool false] 45)) X.heap.size bhC := CB.new X #[.string ⟨#[98, 101, 104, 105, 110, 100]⟩, .int .i64 0, .int .i32 0, .int .i32 0, .string ⟨#[]⟩, .bool false] 45
      have hne : X.heap.size ≠ g0 := Nat.ne_of_gt (O1.lt g0 rfl).2
      have O1' := O1.alloc (.cells #[.string ⟨#[98, 101, 104, 105, 110, 100]⟩, .int .i64 0, .int .i32 0, .int .i32 0, .string ⟨#[]⟩, .bool false] 45)
      clear O1
      have O1 := O1'
      clear O1'
      clear hK K kX
      generalize X.alloc (.cells #[.string ⟨#[98, 101, 104, 105, 110, 100]⟩, .int .i64 0, .int .i32 0, .int .i32 0, .string ⟨#[]⟩, .bool false] 45) = X2 at *
      generalize X.heap.size = h5 at *
      obtain ⟨X, rfl⟩ : ∃ x, x = X2 := ⟨_, rfl⟩
      have kX := kX2
      clear kX2
      (try simp only [Act.put, List.setIfInBounds_toArray, List.set_cons_zero, List.set_cons_succ])
      refine wpAnyH_ready (rs := [3]) (by kernel_rfl) (by simp) ?_
      refine consL rfl (by rfl) (fun K hK => ?_) ?_
      · refine wp_app styC (.tmp 26) (.tmp 28) rfl W.heap.size O1 rfl n c (HR.out.below kX) rfl (by rw [cev_len, HL.out]) (cev_one _) (by unfold maxLen; omega) (by omega) kX.size ?_
        intro v4 X2 own4 gr4 nil4 at4
        have kX2 : Below W.heap.size W X2 := kX.grown gr4 kX.size (fun g e => (O1.lt g e).1)
        refine hK.out _ _ kX2 (fun _ => ?_)
        have C5' := C5.grown gr4 hne
        clear C5
        have C5 := C5'
        clear C5'
        have O1' : X2.ownsRow W.heap.size 45 6 v4 n (cev cs) := own_eq own4 (by omega) (by simp)
        clear hK K kX O1 own4 gr4 nil4 at4
        have O1 := O1'
        clear O1'
        obtain ⟨X, rfl⟩ : ∃ x, x = X2 := ⟨_, rfl⟩
        have kX := kX2
        clear kX2
        (try simp only [Act.put, List.setIfInBounds_toArray, List.set_cons_zero, List.set_cons_succ])
        refine wpAnyH_ready (rs := [6]) (by kernel_rfl) (by simp) ?_
        refine consL rfl (by rfl) (fun K hK => ?_) ?_
        · refine wp_app styC (.tmp 29) (.tmp 31) rfl W.heap.size O1 rfl 1 1 C5.rd rfl rfl (by intro u hu; simp [bhC] at hu; rcases hu with rfl | rfl | rfl | rfl | rfl | rfl <;> rfl) (by unfold maxLen; omega) (by omega) kX.size ?_
          intro v6 X2 own6 gr6 nil6 at6
          have kX2 : Below W.heap.size W X2 := kX.grown gr6 kX.size (fun g e => (O1.lt g e).1)
          obtain ⟨g, c2, rfl, hnc, hcm, hg1, hg2⟩ := own_blkS own6 (by omega)
          refine hK.out _ _ kX2 (fun _ => ?_)
          have RX := Lib.hid (own_rdX own6)
          clear hK K kX O1 own6 gr6 nil6 at6
          obtain ⟨X, rfl⟩ : ∃ x, x = X2 := ⟨_, rfl⟩
          have kX := kX2
          clear kX2
          (try simp only [Act.put, List.setIfInBounds_toArray, List.set_cons_zero, List.set_cons_succ])
          have hle : n ≤ c2 := Nat.le_of_succ_le hnc
          refine takeL (i := 10) (v := ?_) rfl (by kernel_rfl) (by kernel_rfl) (by kernel_rfl) (fun _ _ _ h => hP _ _ _ _ _ h) ⟨by rfl, ?_⟩ (by first | assumption | trivial) ?_
          rotate_left
          · intro W9 hSw
            (try dsimp only at hSw)
            go_simp
            try with_reducible rfl
          (try simp only [Act.put, List.setIfInBounds_toArray, List.set_cons_zero, List.set_cons_succ])
          refine takeL (i := 11) (v := ?_) rfl (by kernel_rfl) (by kernel_rfl) (by kernel_rfl) (fun _ _ _ h => hP _ _ _ _ _ h) ⟨by rfl, ?_⟩ (by first | assumption | trivial) ?_
          rotate_left
          · intro W9 hSw
            (try dsimp only at hSw)
            go_simp
            try with_reducible rfl
          (try simp only [Act.put, List.setIfInBounds_toArray, List.set_cons_zero, List.set_cons_succ])
          refine wpAnyH_done (by kernel_rfl) ?_ _
          exact HQ.out _ _ _ _ _ _ _ _ _ _ _ _ _ _ hnc RX.out kX
        · exact AllReadyH.nil
      · exact AllReadyH.nil
    · exact AllReadyH.nil
  refine consL rfl (by rfl) (fun K hK => ?_) ?_
  · go_simp
    have kX2 : Below W.heap.size W (X.alloc (.cells #[.string ⟨#[98, 101, 104, 105, 110, 100]⟩, .int .i64 0, .int .i32 0, .int .i32 0, .string ⟨#[]⟩, .bool false] 45)) := kX.alloc kX.size _
    refine hK.out _ _ kX2 (fun _ => ?_)
    have C5 : CB (X.alloc (.cells #[.string ⟨#[98, 101, 104, 105, 110, 100]⟩, .int .i64 0, .int .i32 0, .int .i32 0, .string ⟨#[]⟩, .bool false] 45)) X.heap.size bhC := CB.new X #[.string ⟨#[98, 101, 104, 105, 110, 100]⟩, .int .i64 0, .int .i32 0, .int .i32 0, .string ⟨#[]⟩, .bool false] 45
    clear hK K kX
    generalize X.alloc (.cells #[.string ⟨#[98, 101, 104, 105, 110, 100]⟩, .int .i64 0, .int .i32 0, .int .i32 0, .string ⟨#[]⟩, .bool false] 45) = X2 at *
    generalize X.heap.size = h5 at *
    obtain ⟨X, rfl⟩ : ∃ x, x = X2 := ⟨_, rfl⟩
    have kX := kX2
    clear kX2
    (try simp only [Act.put, List.setIfInBounds_toArray, List.set_cons_zero, List.set_cons_succ])
    refine wpAnyH_ready (rs := [0]) (by kernel_rfl) (by simp) ?_
    refine consL rfl (by rfl) (fun K hK => ?_) ?_
    · go_simp
      have kX2 : Below W.heap.size W (X.alloc (.cells #[] 45)) := kX.alloc kX.size _
      refine hK.out _ _ kX2 (fun _ => ?_)
      have O1 : (X.alloc (.cells #[] 45)).ownsRow W.heap.size 45 6 (.slice (some ⟨X.heap.size, 0, none⟩) 0 0) 0 [] := World.ownsRow_lit X #[] 0 kX.size (by decide) rfl
      have hne := Nat.ne_of_lt C5.1
      have C5' := C5.alloc (.cells #[] 45)
      clear C5
      have C5 := C5'
      clear C5'
      clear hK K kX
      generalize X.alloc (.cells #[] 45) = X2 at *
      generalize X.heap.size = g0 at *
      obtain ⟨X, rfl⟩ : ∃ x, x = X2 := ⟨_, rfl⟩
      have kX := kX2
      clear kX2
      (try simp only [Act.put, List.setIfInBounds_toArray, List.set_cons_zero, List.set_cons_succ])
      refine wpAnyH_ready (rs := [3]) (by kernel_rfl) (by simp) ?_
      refine consL rfl (by rfl) (fun K hK => ?_) ?_
      · refine wp_app styC (.tmp 26) (.tmp 28) rfl W.heap.size O1 rfl n c (HR.out.below kX) rfl (by rw [cev_len, HL.out]) (cev_one _) (by unfold maxLen; omega) (by omega) kX.size ?_
        intro v4 X2 own4 gr4 nil4 at4
        have kX2 : Below W.heap.size W X2 := kX.grown gr4 kX.size (fun g e => (O1.lt g e).1)
        refine hK.out _ _ kX2 (fun _ => ?_)
        have C5' := C5.grown gr4 hne
        clear C5
        have C5 := C5'
        clear C5'
        have O1' : X2.ownsRow W.heap.size 45 6 v4 n (cev cs) := own_eq own4 (by omega) (by simp)
        clear hK K kX O1 own4 gr4 nil4 at4
        have O1 := O1'
        clear O1'
        obtain ⟨X, rfl⟩ : ∃ x, x = X2 := ⟨_, rfl⟩
        have kX := kX2
        clear kX2
        (try simp only [Act.put, List.setIfInBounds_toArray, List.set_cons_zero, List.set_cons_succ])
        refine wpAnyH_ready (rs := [6]) (by kernel_rfl) (by simp) ?_
        refine consL rfl (by rfl) (fun K hK => ?_) ?_
        · refine wp_app styC (.tmp 29) (.tmp 31) rfl W.heap.size O1 rfl 1 1 C5.rd rfl rfl (by intro u hu; simp [bhC] at hu; rcases hu with rfl | rfl | rfl | rfl | rfl | rfl <;> rfl) (by unfold maxLen; omega) (by omega) kX.size ?_
          intro v6 X2 own6 gr6 nil6 at6
          have kX2 : Below W.heap.size W X2 := kX.grown gr6 kX.size (fun g e => (O1.lt g e).1)
          obtain ⟨g, c2, rfl, hnc, hcm, hg1, hg2⟩ := own_blkS own6 (by omega)
          refine hK.out _ _ kX2 (fun _ => ?_)
          have RX := Lib.hid (own_rdX own6)
          clear hK K kX O1 own6 gr6 nil6 at6
          obtain ⟨X, rfl⟩ : ∃ x, x = X2 := ⟨_, rfl⟩
          have kX := kX2
          clear kX2
          (try simp only [Act.put, List.setIfInBounds_toArray, List.set_cons_zero, List.set_cons_succ])
          have hle : n ≤ c2 := Nat.le_of_succ_le hnc
          refine takeL (i := 10) (v := ?_) rfl (by kernel_rfl) (by kernel_rfl) (by kernel_rfl) (fun _ _ _ h => hP _ _ _ _ _ h) ⟨by rfl, ?_⟩ (by first | assumption | trivial) ?_
          rotate_left
          · intro W9 hSw
            (try dsimp only at hSw)
            go_simp
            try with_reducible rfl
          (try simp only [Act.put, List.setIfInBounds_toArray, List.set_cons_zero, List.set_cons_succ])
          refine takeL (i := 11) (v := ?_) rfl (by kernel_rfl) (by kernel_rfl) (by kernel_rfl) (fun _ _ _ h => hP _ _ _ _ _ h) ⟨by rfl, ?_⟩ (by first | assumption | trivial) ?_
          rotate_left
          · intro W9 hSw
            (try dsimp only at hSw)
            go_simp
            try with_reducible rfl
          (try simp only [Act.put, List.setIfInBounds_toArray, List.set_cons_zero, List.set_cons_succ])
          refine wpAnyH_done (by kernel_rfl) ?_ _
          exact HQ.out _ _ _ _ _ _ _ _ _ _ _ _ _ _ hnc RX.out kX
        · exact AllReadyH.nil
      · exact AllReadyH.nil
    · exact AllReadyH.nil
  · exact AllReadyH.nil
set_option maxHeartbeats 6400000 in
theorem copy6_any (W : World) (b : Nat) (A : Option Addr) (n c : Nat) (cs : List Itt) (hl : cs.length = n) (hn : n ≤ 60) (hr : Rd W W.heap.size A (itv cs)) (hb : b < W.heap.size) (x0 : W.cell? ⟨b, 1, none⟩ = some (.slice A n c))
    (c0 c2 c3 c4 c5 c6 c7 c8 c9 c10 c11 c12 c13 c14 c15 c16 c17 c18 c19 c20 c21 c22 c23 c24 c25 c26 c27 c28 c29 c30 c31 c32 c33 c34 c35 c36 c37 c38 c39 c40 c41 c42 c43 c44 c45 c46 c47 c48 c49 c50 c51 c52 c53 c54 c55 c56 c57 c58 c59 c60 c61 c62 c63 c64 c65 c66 c67 c68 c69 c70 c71 c72 c73 c74 c75 c76 c77 c78 c79 c80 c81 c82 c83 c84 c85 c86 c87 c88 c89 c90 c91 c92 c93 c94 c95 c96 c97 c98 c99 c100 c101 c102 c103 c104 c105 c106 c107 c108 c109 c110 c111 c112 c113 c114 c115 c116 c117 c118 c119 c120 c121 c122 c123 c124 c125 c126 c127 c128 c129 c130 c131 c132 c133 c134 c135 c136 c137 c138 c139 c140 c141 c142 c143 c144 c145 c146 c147 c148 c149 c150 c151 c152 c153 c154 c155 c156 c157 c158 c159 c160 c161 c162 c163 c164 c165 c166 c167 c168 c169 c170 c171 c172 c173 c174 c175 c176 c177 c178 c179 c180 c181 c182 c183 c184 c185 c186 c187 c188 c189 c190 c191 c192 c193 c194 c195 c196 c197 c198 c199 c200 c201 c202 c203 c204 c205 c206 c207 c208 c209 c210 c211 c212 c213 c214 c215 c216 c217 c218 c219 c220 c221 c222 c223 c224 c225 c226 c227 c228 c229 c230 c231 c232 c233 c234 c235 c236 c237 c238 c239 c240 c241 c242 c243 c244 c245 c246 c247 c248 c249 c250 c251 c252 c253 c254 c255 c256 c257 c258 c259 c260 c261 c262 c263 c264 c265 c266 c267 c268 c269 c270 c271 c272 c273 c274 c275 c276 c277 c278 c279 c280 c281 : Value) (Q : Exit → Act → World → Prop) (hP : ∀ q (a : Act) (i : Nat) v w, Q (.panic q) (a.put (some i) v) w → Q (.panic q) a w)
    (hQ : ∀ g d (u37 u38 u39 u40 u41 u42 u43 u44 u45 u46 u47 : Value) wc, n + 1 ≤ d → Rd wc wc.heap.size (some ⟨g, 0, none⟩) (itv cs ++ bhI) → Below W.heap.size W wc → Q .normal ⟨#[c0, (.pointer (some ⟨b, 0, none⟩)), c2, c3, (.slice (some ⟨g, 0, none⟩) n d), c5, c6, c7, c8, c9, c10, c11, c12, c13, c14, c15, c16, c17, c18, c19, c20, c21, c22, c23, c24, c25, c26, c27, c28, c29, c30, c31, c32, c33, c34, c35, c36, u37, u38, u39, u40, u41, u42, u43, u44, u45, u46, u47, c48, c49, c50, c51, c52, c53, c54, c55, c56, c57, c58, c59, c60, c61, c62, c63, c64, c65, c66, c67, c68, c69, c70, c71, c72, c73, c74, c75, c76, c77, c78, c79, c80, c81, c82, c83, c84, c85, c86, c87, c88, c89, c90, c91, c92, c93, c94, c95, c96, c97, c98, c99, c100, c101, c102, c103, c104, c105, c106, c107, c108, c109, c110, c111, c112, c113, c114, c115, c116, c117, c118, c119, c120, c121, c122, c123, c124, c125, c126, c127, c128, c129, c130, c131, c132, c133, c134, c135, c136, c137, c138, c139, c140, c141, c142, c143, c144, c145, c146, c147, c148, c149, c150, c151, c152, c153, c154, c155, c156, c157, c158, c159, c160, c161, c162, c163, c164, c165, c166, c167, c168, c169, c170, c171, c172, c173, c174, c175, c176, c177, c178, c179, c180, c181, c182, c183, c184, c185, c186, c187, c188, c189, c190, c191, c192, c193, c194, c195, c196, c197, c198, c199, c200, c201, c202, c203, c204, c205, c206, c207, c208, c209, c210, c211, c212, c213, c214, c215, c216, c217, c218, c219, c220, c221, c222, c223, c224, c225, c226, c227, c228, c229, c230, c231, c232, c233, c234, c235, c236, c237, c238, c239, c240, c241, c242, c243, c244, c245, c246, c247, c248, c249, c250, c251, c252, c253, c254, c255, c256, c257, c258, c259, c260, c261, c262, c263, c264, c265, c266, c267, c268, c269, c270, c271, c272, c273, c274, c275, c276, c277, c278, c279, c280, c281], []⟩ wc) :
    Code.wp Try.prog (regC 6) Q ⟨#[c0, (.pointer (some ⟨b, 0, none⟩)), c2, c3, c4, c5, c6, c7, c8, c9, c10, c11, c12, c13, c14, c15, c16, c17, c18, c19, c20, c21, c22, c23, c24, c25, c26, c27, c28, c29, c30, c31, c32, c33, c34, c35, c36, c37, c38, c39, c40, c41, c42, c43, c44, c45, c46, c47, c48, c49, c50, c51, c52, c53, c54, c55, c56, c57, c58, c59, c60, c61, c62, c63, c64, c65, c66, c67, c68, c69, c70, c71, c72, c73, c74, c75, c76, c77, c78, c79, c80, c81, c82, c83, c84, c85, c86, c87, c88, c89, c90, c91, c92, c93, c94, c95, c96, c97, c98, c99, c100, c101, c102, c103, c104, c105, c106, c107, c108, c109, c110, c111, c112, c113, c114, c115, c116, c117, c118, c119, c120, c121, c122, c123, c124, c125, c126, c127, c128, c129, c130, c131, c132, c133, c134, c135, c136, c137, c138, c139, c140, c141, c142, c143, c144, c145, c146, c147, c148, c149, c150, c151, c152, c153, c154, c155, c156, c157, c158, c159, c160, c161, c162, c163, c164, c165, c166, c167, c168, c169, c170, c171, c172, c173, c174, c175, c176, c177, c178, c179, c180, c181, c182, c183, c184, c185, c186, c187, c188, c189, c190, c191, c192, c193, c194, c195, c196, c197, c198, c199, c200, c201, c202, c203, c204, c205, c206, c207, c208, c209, c210, c211, c212, c213, c214, c215, c216, c217, c218, c219, c220, c221, c222, c223, c224, c225, c226, c227, c228, c229, c230, c231, c232, c233, c234, c235, c236, c237, c238, c239, c240, c241, c242, c243, c244, c245, c246, c247, c248, c249, c250, c251, c252, c253, c254, c255, c256, c257, c258, c259, c260, c261, c262, c263, c264, c265, c266, c267, c268, c269, c270, c271, c272, c273, c274, c275, c276, c277, c278, c279, c280, c281], []⟩ W := by
  have HL := Lib.hid hl
  have HR := Lib.hid hr
  have HQ := Lib.hid hQ
  clear hl hr hQ
  conv => arg 2; whnf
  refine wp_heldall (S := fun X => Below W.heap.size W X) 12 (by kernel_rfl) rfl (Below.drew (Below.refl _ _)) (fun hHeld => ?_)
  refine takeL (i := 1) (v := ?_) rfl (by kernel_rfl) (by kernel_rfl) (by kernel_rfl) (fun _ _ _ h => hP _ _ _ _ _ h) ⟨by rfl, ?_⟩ (by first | assumption | trivial) ?_
  rotate_left
  · intro W9 hSw
    (try dsimp only at hSw)
    have x0' := (hSw.cell (p := ⟨b, 1, none⟩) hb).trans x0
    go_simp
    try with_reducible rfl
  (try simp only [Act.put, List.setIfInBounds_toArray, List.set_cons_zero, List.set_cons_succ])
  refine takeL (i := 2) (v := ?_) rfl (by kernel_rfl) (by kernel_rfl) (by kernel_rfl) (fun _ _ _ h => hP _ _ _ _ _ h) ⟨by rfl, ?_⟩ (by first | assumption | trivial) ?_
  rotate_left
  · intro W9 hSw
    (try dsimp only at hSw)
    have x0' := (hSw.cell (p := ⟨b, 1, none⟩) hb).trans x0
    go_simp
    try with_reducible rfl
  (try simp only [Act.put, List.setIfInBounds_toArray, List.set_cons_zero, List.set_cons_succ])
  refine takeL (i := 4) (v := ?_) rfl (by kernel_rfl) (by kernel_rfl) (by kernel_rfl) (fun _ _ _ h => hP _ _ _ _ _ h) ⟨by rfl, ?_⟩ (by first | assumption | trivial) ?_
  rotate_left
  · intro W9 hSw
    (try dsimp only at hSw)
    have x0' := (hSw.cell (p := ⟨b, 1, none⟩) hb).trans x0
    go_simp
    try with_reducible rfl
  (try simp only [Act.put, List.setIfInBounds_toArray, List.set_cons_zero, List.set_cons_succ])
  refine takeL (i := 7) (v := ?_) rfl (by kernel_rfl) (by kernel_rfl) (by kernel_rfl) (fun _ _ _ h => hP _ _ _ _ _ h) ⟨by rfl, ?_⟩ (by first | assumption | trivial) ?_
  rotate_left
  · intro W9 hSw
    (try dsimp only at hSw)
    have x0' := (hSw.cell (p := ⟨b, 1, none⟩) hb).trans x0
    go_simp
    try with_reducible rfl
  (try simp only [Act.put, List.setIfInBounds_toArray, List.set_cons_zero, List.set_cons_succ])
  refine takeL (i := 8) (v := ?_) rfl (by kernel_rfl) (by kernel_rfl) (by kernel_rfl) (fun _ _ _ h => hP _ _ _ _ _ h) ⟨by rfl, ?_⟩ (by first | assumption | trivial) ?_
  rotate_left
  · intro W9 hSw
    (try dsimp only at hSw)
    have x0' := (hSw.cell (p := ⟨b, 1, none⟩) hb).trans x0
    go_simp
    try with_reducible rfl
  (try simp only [Act.put, List.setIfInBounds_toArray, List.set_cons_zero, List.set_cons_succ])
  refine takeL (i := 9) (v := ?_) rfl (by kernel_rfl) (by kernel_rfl) (by kernel_rfl) (fun _ _ _ h => hP _ _ _ _ _ h) ⟨by rfl, ?_⟩ (by first | assumption | trivial) ?_
  rotate_left
  · intro W9 hSw
    (try dsimp only at hSw)
    have x0' := (hSw.cell (p := ⟨b, 1, none⟩) hb).trans x0
    go_simp
    try with_reducible rfl
  (try simp only [Act.put, List.setIfInBounds_toArray, List.set_cons_zero, List.set_cons_succ])
  have kX := hHeld
  clear hHeld
  generalize W.drew = X at *
  refine wpAnyH_ready (rs := [0, 5]) (by kernel_rfl) (by simp) ?_
  refine consL rfl (by rfl) (fun K hK => ?_) ?_
  · go_simp
    have kX2 : Below W.heap.size W (X.alloc (.cells #[] 29)) := kX.alloc kX.size _
    refine hK.out _ _ kX2 (fun _ => ?_)
    have O1 : (X.alloc (.cells #[] 29)).ownsRow W.heap.size 29 12 (.slice (some ⟨X.heap.size, 0, none⟩) 0 0) 0 [] := World.ownsRow_lit X #[] 0 kX.size (by decide) rfl
    clear hK K kX
    generalize X.alloc (.cells #[] 29) = X2 at *
    generalize X.heap.size = g0 at *
    obtain ⟨X, rfl⟩ : ∃ x, x = X2 := ⟨_, rfl⟩
    have kX := kX2
    clear kX2
    (try simp only [Act.put, List.setIfInBounds_toArray, List.set_cons_zero, List.set_cons_succ])
    refine wpAnyH_ready (rs := [3, 5]) (by kernel_rfl) (by simp) ?_
    refine consL rfl (by rfl) (fun K hK => ?_) ?_
    · refine wp_app styIt (.tmp 37) (.tmp 39) rfl W.heap.size O1 rfl n c (HR.out.below kX) rfl (by rw [itv_len, HL.out]) (itv_one _) (by unfold maxLen; omega) (by omega) kX.size ?_
      intro v4 X2 own4 gr4 nil4 at4
      have kX2 : Below W.heap.size W X2 := kX.grown gr4 kX.size (fun g e => (O1.lt g e).1)
      refine hK.out _ _ kX2 (fun _ => ?_)
      have O1' : X2.ownsRow W.heap.size 29 12 v4 n (itv cs) := own_eq own4 (by omega) (by simp)
      clear hK K kX O1 own4 gr4 nil4 at4
      have O1 := O1'
      clear O1'
      obtain ⟨X, rfl⟩ : ∃ x, x = X2 := ⟨_, rfl⟩
      have kX := kX2
      clear kX2
      (try simp only [Act.put, List.setIfInBounds_toArray, List.set_cons_zero, List.set_cons_succ])
      refine wpAnyH_ready (rs := [5]) (by kernel_rfl) (by simp) ?_
      refine consL rfl (by rfl) (fun K hK => ?_) ?_
      · go_simp
        have kX2 : Below W.heap.size W (X.alloc (.cells #[.string ⟨#[98, 101, 104, 105, 110, 100]⟩, .int .i32 0, .int .i32 0, .int .i64 0, .int .i32 0, .int .i32 0, .string ⟨#[]⟩, .int .i64 0, .int .i32 0, .int .i32 0, .string ⟨#[]⟩, .bool false] 29)) := kX.alloc kX.size _
        refine hK.out _ _ kX2 (fun _ => ?_)
        have C5 : CB (X.alloc (.cells #[.string ⟨#[98, 101, 104, 105, 110, 100]⟩, .int .i32 0, .int .i32 0, .int .i64 0, .int .i32 0, .int .i32 0, .string ⟨#[]⟩, .int .i64 0, .int .i32 0, .int .i32 0, .string ⟨#[]⟩, .bool false] 29)) X.heap.size bhI := CB.new X #[.string ⟨#[98, 101, 104, 105, 110, 100]⟩, .int .i32 0, .int .i32 0, .int .i64 0, .int .i32 0, .int .i32 0, .string ⟨#[]⟩, .int .i64 0, .int .i32 0, .int .i32 0, .string ⟨#[]⟩, .bool false] 29
        have O1' := O1.alloc (.cells #[.string ⟨#[98, 101, 104, 105, 110, 100]⟩, .int .i32 0, .int .i32 0, .int .i64 0, .int .i32 0, .int .i32 0, .string ⟨#[]⟩, .int .i64 0, .int .i32 0, .int .i32 0, .string ⟨#[]⟩, .bool false] 29)
        clear O1
        have O1 := O1'
        clear O1'
        clear hK K kX
        generalize X.alloc (.cells #[.string ⟨#[98, 101, 104, 105, 110, 100]⟩, .int .i32 0, .int .i32 0, .int .i64 0, .int .i32 0, .int .i32 0, .string ⟨#[]⟩, .int .i64 0, .int .i32 0, .int .i32 0, .string ⟨#[]⟩, .bool false] 29) = X2 at *
        generalize X.heap.size = h5 at *
        obtain ⟨X, rfl⟩ : ∃ x, x = X2 := ⟨_, rfl⟩
        have kX := kX2
        clear kX2
        (try simp only [Act.put, List.setIfInBounds_toArray, List.set_cons_zero, List.set_cons_succ])
        refine wpAnyH_ready (rs := [6]) (by kernel_rfl) (by simp) ?_
        refine consL rfl (by rfl) (fun K hK => ?_) ?_
        · refine wp_app styIt (.tmp 40) (.tmp 42) rfl W.heap.size O1 rfl 1 1 C5.rd rfl rfl (by intro u hu; simp [bhI] at hu; rcases hu with rfl | rfl | rfl | rfl | rfl | rfl | rfl | rfl | rfl | rfl | rfl | rfl <;> rfl) (by unfold maxLen; omega) (by omega) kX.size ?_
          intro v6 X2 own6 gr6 nil6 at6
          have kX2 : Below W.heap.size W X2 := kX.grown gr6 kX.size (fun g e => (O1.lt g e).1)
          obtain ⟨g, c2, rfl, hnc, hcm, hg1, hg2⟩ := own_blkS own6 (by omega)
          refine hK.out _ _ kX2 (fun _ => ?_)
          have RX := Lib.hid (own_rdX own6)
          clear hK K kX O1 own6 gr6 nil6 at6
          obtain ⟨X, rfl⟩ : ∃ x, x = X2 := ⟨_, rfl⟩
          have kX := kX2
          clear kX2
          (try simp only [Act.put, List.setIfInBounds_toArray, List.set_cons_zero, List.set_cons_succ])
          have hle : n ≤ c2 := Nat.le_of_succ_le hnc
          refine takeL (i := 10) (v := ?_) rfl (by kernel_rfl) (by kernel_rfl) (by kernel_rfl) (fun _ _ _ h => hP _ _ _ _ _ h) ⟨by rfl, ?_⟩ (by first | assumption | trivial) ?_
          rotate_left
          · intro W9 hSw
            (try dsimp only at hSw)
            go_simp
            try with_reducible rfl
          (try simp only [Act.put, List.setIfInBounds_toArray, List.set_cons_zero, List.set_cons_succ])
          refine takeL (i := 11) (v := ?_) rfl (by kernel_rfl) (by kernel_rfl) (by kernel_rfl) (fun _ _ _ h => hP _ _ _ _ _ h) ⟨by rfl, ?_⟩ (by first | assumption | trivial) ?_
          rotate_left
          · intro W9 hSw
            (try dsimp only at hSw)
            go_simp
            try with_reducible rfl
          (try simp only [Act.put, List.setIfInBounds_toArray, List.set_cons_zero, List.set_cons_succ])
          refine wpAnyH_done (by kernel_rfl) ?_ _
          exact HQ.out _ _ _ _ _ _ _ _ _ _ _ _ _ _ hnc RX.out kX
        · exact AllReadyH.nil
      · exact AllReadyH.nil
    refine consL rfl (by rfl) (fun K hK => ?_) ?_
    · go_simp
      have kX2 : Below W.heap.size W (X.alloc (.cells #[.string ⟨#[98, 101, 104, 105, 110, 100]⟩, .int .i32 0, .int .i32 0, .int .i64 0, .int .i32 0, .int .i32 0, .string ⟨#[]⟩, .int .i64 0, .int .i32 0, .int .i32 0, .string ⟨#[]⟩, .bool false] 29)) := kX.alloc kX.size _
      refine hK.out _ _ kX2 (fun _ => ?_)
      have C5 : CB (X.alloc (.cells #[.string ⟨#[98, 101, 104, 105, 110, 100]⟩, .int .i32 0, .int .i32 0, .int .i64 0, .int .i32 0, .int .i32 0, .string ⟨#[]⟩, .int .i64 0, .int .i32 0, .int .i32 0, .string ⟨#[]⟩, .bool false] 29)) X.heap.size bhI := CB.new X #[.string ⟨#[98, 101, 104, 105, 110, 100]⟩, .int .i32 0, .int .i32 0, .int .i64 0, .int .i32 0, .int .i32 0, .string ⟨#[]⟩, .int .i64 0, .int .i32 0, .int .i32 0, .string ⟨#[]⟩, .bool false] 29
      have hne : X.heap.size ≠ g0 := Nat.ne_of_gt (O1.lt g0 rfl).2
      have O1' := O1.alloc (.cells #[.string ⟨#[98, 101, 104, 105, 110, 100]⟩, .int .i32 0, .int .i32 0, .int .i64 0, .int .i32 0, .int .i32 0, .string ⟨#[]⟩, .int .i64 0, .int .i32 0, .int .i32 0, .string ⟨#[]⟩, .bool false] 29)
      clear O1
      have O1 := O1'
      clear O1'
      clear hK K kX
      generalize X.alloc (.cells #[.string ⟨#[98, 101, 104, 105, 110, 100]⟩, .int .i32 0, .int .i32 0, .int .i64 0, .int .i32 0, .int .i32 0, .string ⟨#[]⟩, .int .i64 0, .int .i32 0, .int .i32 0, .string ⟨#[]⟩, .bool false] 29) = X2 at *
      generalize X.heap.size = h5 at *
      obtain ⟨X, rfl⟩ : ∃ x, x = X2 := ⟨_, rfl⟩
      have kX := kX2
      clear kX2
      (try simp only [Act.put, List.setIfInBounds_toArray, List.set_cons_zero, List.set_cons_succ])
      refine wpAnyH_ready (rs := [3]) (by kernel_rfl) (by simp) ?_
      refine consL rfl (by rfl) (fun K hK => ?_) ?_
      · refine wp_app styIt (.tmp 37) (.tmp 39) rfl W.heap.size O1 rfl n c (HR.out.below kX) rfl (by rw [itv_len, HL.out]) (itv_one _) (by unfold maxLen; omega) (by omega) kX.size ?_
        intro v4 X2 own4 gr4 nil4 at4
        have kX2 : Below W.heap.size W X2 := kX.grown gr4 kX.size (fun g e => (O1.lt g e).1)
        refine hK.out _ _ kX2 (fun _ => ?_)
        have C5' := C5.grown gr4 hne
        clear C5
        have C5 := C5'
        clear C5'
        have O1' : X2.ownsRow W.heap.size 29 12 v4 n (itv cs) := own_eq own4 (by omega) (by simp)
        clear hK K kX O1 own4 gr4 nil4 at4
        have O1 := O1'
        clear O1'
        obtain ⟨X, rfl⟩ : ∃ x, x = X2 := ⟨_, rfl⟩
        have kX := kX2
        clear kX2
        (try simp only [Act.put, List.setIfInBounds_toArray, List.set_cons_zero, List.set_cons_succ])
        refine wpAnyH_ready (rs := [6]) (by kernel_rfl) (by simp) ?_
        refine consL rfl (by rfl) (fun K hK => ?_) ?_
        · refine wp_app styIt (.tmp 40) (.tmp 42) rfl W.heap.size O1 rfl 1 1 C5.rd rfl rfl (by intro u hu; simp [bhI] at hu; rcases hu with rfl | rfl | rfl | rfl | rfl | rfl | rfl | rfl | rfl | rfl | rfl | rfl <;> rfl) (by unfold maxLen; omega) (by omega) kX.size ?_
          intro v6 X2 own6 gr6 nil6 at6
          have kX2 : Below W.heap.size W X2 := kX.grown gr6 kX.size (fun g e => (O1.lt g e).1)
          obtain ⟨g, c2, rfl, hnc, hcm, hg1, hg2⟩ := own_blkS own6 (by omega)
          refine hK.out _ _ kX2 (fun _ => ?_)
          have RX := Lib.hid (own_rdX own6)
          clear hK K kX O1 own6 gr6 nil6 at6
          obtain ⟨X, rfl⟩ : ∃ x, x = X2 := ⟨_, rfl⟩
          have kX := kX2
          clear kX2
          (try simp only [Act.put, List.setIfInBounds_toArray, List.set_cons_zero, List.set_cons_succ])
          have hle : n ≤ c2 := Nat.le_of_succ_le hnc
          refine takeL (i := 10) (v := ?_) rfl (by kernel_rfl) (by kernel_rfl) (by kernel_rfl) (fun _ _ _ h => hP _ _ _ _ _ h) ⟨by rfl, ?_⟩ (by first | assumption | trivial) ?_
          rotate_left
          · intro W9 hSw
            (try dsimp only at hSw)
            go_simp
            try with_reducible rfl
          (try simp only [Act.put, List.setIfInBounds_toArray, List.set_cons_zero, List.set_cons_succ])
          refine takeL (i := 11) (v := ?_) rfl (by kernel_rfl) (by kernel_rfl) (by kernel_rfl) (fun _ _ _ h => hP _ _ _ _ _ h) ⟨by rfl, ?_⟩ (by first | assumption | trivial) ?_
          rotate_left
          · intro W9 hSw
            (try dsimp only at hSw)
            go_simp
            try with_reducible rfl
          (try simp only [Act.put, List.setIfInBounds_toArray, List.set_cons_zero, List.set_cons_succ])
          refine wpAnyH_done (by kernel_rfl) ?_ _
          exact HQ.out _ _ _ _ _ _ _ _ _ _ _ _ _ _ hnc RX.out kX
        · exact AllReadyH.nil
      · exact AllReadyH.nil
    · exact AllReadyH.nil
  refine consL rfl (by rfl) (fun K hK => ?_) ?_
  · go_simp
    have kX2 : Below W.heap.size W (X.alloc (.cells #[.string ⟨#[98, 101, 104, 105, 110, 100]⟩, .int .i32 0, .int .i32 0, .int .i64 0, .int .i32 0, .int .i32 0, .string ⟨#[]⟩, .int .i64 0, .int .i32 0, .int .i32 0, .string ⟨#[]⟩, .bool false] 29)) := kX.alloc kX.size _
    refine hK.out _ _ kX2 (fun _ => ?_)
    have C5 : CB (X.alloc (.cells #[.string ⟨#[98, 101, 104, 105, 110, 100]⟩, .int .i32 0, .int .i32 0, .int .i64 0, .int .i32 0, .int .i32 0, .string ⟨#[]⟩, .int .i64 0, .int .i32 0, .int .i32 0, .string ⟨#[]⟩, .bool false] 29)) X.heap.size bhI := CB.new X #[.string ⟨#[98, 101, 104, 105, 110, 100]⟩, .int .i32 0, .int .i32 0, .int .i64 0, .int .i32 0, .int .i32 0, .string ⟨#[]⟩, .int .i64 0, .int .i32 0, .int .i32 0, .string ⟨#[]⟩, .bool false] 29
    clear hK K kX
    generalize X.alloc (.cells #[.string ⟨#[98, 101, 104, 105, 110, 100]⟩, .int .i32 0, .int .i32 0, .int .i64 0, .int .i32 0, .int .i32 0, .string ⟨#[]⟩, .int .i64 0, .int .i32 0, .int .i32 0, .string ⟨#[]⟩, .bool false] 29) = X2 at *
    generalize X.heap.size = h5 at *
    obtain ⟨X, rfl⟩ : ∃ x, x = X2 := ⟨_, rfl⟩
    have kX := kX2
    clear kX2
    (try simp only [Act.put, List.setIfInBounds_toArray, List.set_cons_zero, List.set_cons_succ])
    refine wpAnyH_ready (rs := [0]) (by kernel_rfl) (by simp) ?_
    refine consL rfl (by rfl) (fun K hK => ?_) ?_
    · go_simp
      have kX2 : Below W.heap.size W (X.alloc (.cells #[] 29)) := kX.alloc kX.size _
      refine hK.out _ _ kX2 (fun _ => ?_)
      have O1 : (X.alloc (.cells #[] 29)).ownsRow W.heap.size 29 12 (.slice (some ⟨X.heap.size, 0, none⟩) 0 0) 0 [] := World.ownsRow_lit X #[] 0 kX.size (by decide) rfl
      have hne := Nat.ne_of_lt C5.1
      have C5' := C5.alloc (.cells #[] 29)
      clear C5
      have C5 := C5'
      clear C5'
      clear hK K kX
      generalize X.alloc (.cells #[] 29) = X2 at *
      generalize X.heap.size = g0 at *
      obtain ⟨X, rfl⟩ : ∃ x, x = X2 := ⟨_, rfl⟩
      have kX := kX2
      clear kX2
      (try simp only [Act.put, List.setIfInBounds_toArray, List.set_cons_zero, List.set_cons_succ])
      refine wpAnyH_ready (rs := [3]) (by kernel_rfl) (by simp) ?_
      refine consL rfl (by rfl) (fun K hK => ?_) ?_
      · refine wp_app styIt (.tmp 37) (.tmp 39) rfl W.heap.size O1 rfl n c (HR.out.below kX) rfl (by rw [itv_len, HL.out]) (itv_one _) (by unfold maxLen; omega) (by omega) kX.size ?_
        intro v4 X2 own4 gr4 nil4 at4
        have kX2 : Below W.heap.size W X2 := kX.grown gr4 kX.size (fun g e => (O1.lt g e).1)
        refine hK.out _ _ kX2 (fun _ => ?_)
        have C5' := C5.grown gr4 hne
        clear C5
        have C5 := C5'
        clear C5'
        have O1' : X2.ownsRow W.heap.size 29 12 v4 n (itv cs) := own_eq own4 (by omega) (by simp)
        clear hK K kX O1 own4 gr4 nil4 at4
        have O1 := O1'
        clear O1'
        obtain ⟨X, rfl⟩ : ∃ x, x = X2 := ⟨_, rfl⟩
        have kX := kX2
        clear kX2
        (try simp only [Act.put, List.setIfInBounds_toArray, List.set_cons_zero, List.set_cons_succ])
        refine wpAnyH_ready (rs := [6]) (by kernel_rfl) (by simp) ?_
        refine consL rfl (by rfl) (fun K hK => ?_) ?_
        · refine wp_app styIt (.tmp 40) (.tmp 42) rfl W.heap.size O1 rfl 1 1 C5.rd rfl rfl (by intro u hu; simp [bhI] at hu; rcases hu with rfl | rfl | rfl | rfl | rfl | rfl | rfl | rfl | rfl | rfl | rfl | rfl <;> rfl) (by unfold maxLen; omega) (by omega) kX.size ?_
          intro v6 X2 own6 gr6 nil6 at6
          have kX2 : Below W.heap.size W X2 := kX.grown gr6 kX.size (fun g e => (O1.lt g e).1)
          obtain ⟨g, c2, rfl, hnc, hcm, hg1, hg2⟩ := own_blkS own6 (by omega)
          refine hK.out _ _ kX2 (fun _ => ?_)
          have RX := Lib.hid (own_rdX own6)
          clear hK K kX O1 own6 gr6 nil6 at6
          obtain ⟨X, rfl⟩ : ∃ x, x = X2 := ⟨_, rfl⟩
          have kX := kX2
          clear kX2
          (try simp only [Act.put, List.setIfInBounds_toArray, List.set_cons_zero, List.set_cons_succ])
          have hle : n ≤ c2 := Nat.le_of_succ_le hnc
          refine takeL (i := 10) (v := ?_) rfl (by kernel_rfl) (by kernel_rfl) (by kernel_rfl) (fun _ _ _ h => hP _ _ _ _ _ h) ⟨by rfl, ?_⟩ (by first | assumption | trivial) ?_
          rotate_left
          · intro W9 hSw
            (try dsimp only at hSw)
            go_simp
            try with_reducible rfl
          (try simp only [Act.put, List.setIfInBounds_toArray, List.set_cons_zero, List.set_cons_succ])
          refine takeL (i := 11) (v := ?_) rfl (by kernel_rfl) (by kernel_rfl) (by kernel_rfl) (fun _ _ _ h => hP _ _ _ _ _ h) ⟨by rfl, ?_⟩ (by first | assumption | trivial) ?_
          rotate_left
          · intro W9 hSw
            (try dsimp only at hSw)
            go_simp
            try with_reducible rfl
          (try simp only [Act.put, List.setIfInBounds_toArray, List.set_cons_zero, List.set_cons_succ])
          refine wpAnyH_done (by kernel_rfl) ?_ _
          exact HQ.out _ _ _ _ _ _ _ _ _ _ _ _ _ _ hnc RX.out kX
        · exact AllReadyH.nil
      · exact AllReadyH.nil
    · exact AllReadyH.nil
  · exact AllReadyH.nil
end Go.Proofs.Ytgikaglmeeeplaa
