/- Walk: what a table goes over is collected, up to some. -/
import Derived.Test.YtjhgbdeadkoegaaLh
namespace Go.Proofs.Ytjhgbdeadkoegaa
open Go.RowKit Go.St Go.Shelf Go.Maps
set_option linter.unusedVariables false
set_option linter.unusedSimpArgs false
set_option maxRecDepth 100000
attribute [local go_sem] Oper.semAt_some

theorem wpListIn_app {F : Fence} {d : Nat} {P : Program} {t e : TypeId} {size bytes : Nat} {z : Value} (E : STy P t e size bytes z) {w : World} {ops : Array Oper} {rest : List Oper} {o : Oper} {a : Act} {Q : Exit → Act → World → Prop} (s x : Operand) (hgd : o.guard = none)
    (ho : o.op = .call { callee := .builtin .append, args := #[s, x], argTypes := #[t, t] })
    (base : Nat) {v : Value} {n : Nat} {xs : List Value} (hown : w.ownsRow base e size v n xs) (hs : a.eval s = v)
    {B : Nat} {A : Option Addr} (m c : Nat) {news : List Value} (hr : Rd w B A news) (hx : a.eval x = .slice A m c) (hl : news.length = m * size) (h1 : ∀ u ∈ news, u.oneCell' = true)
    (h63 : n + m ≤ maxLen) (hbytes : (n + m) * bytes ≤ 140737488355328) (hbase : base ≤ w.heap.size)
    (h : ∀ v' w', w'.ownsRow base e size v' (n + m) (xs ++ news) → w.grownBy w' v.ownBlock → (v' = .slice none 0 0 ↔ v = .slice none 0 0 ∧ m = 0) → (v'.ownBlock = v.ownBlock ∨ v'.ownBlock = some w.heap.size) → wpListIn F d P ops Q rest (a.put o.dst v') w') :
    wpListIn F d P ops Q (o :: rest) a w := by
  refine wpListIn_plain hgd fun K hK => ?_
  obtain ⟨v', w', hrun, h2, h3, h4, h5⟩ := run_app E w o.type base hown m c hr hl h1 h63 hbytes hbase
  unfold Oper.wpIn
  refine ⟨?_, ?_⟩
  · simp [Oper.about, ho, resolve, Target.leads, Sem.run_pure]
  · rw [Oper.semAt_plain F _ _ (by rw [ho]; intro c hc'; cases hc')]
    simp [execOp, ho, resolve, invoke, builtin, hs, hx, hrun, Result.andThen]
    exact hK _ _ (h v' w' h2 h3 h4 h5)
/-- What is collected, in its box; the rest lies as it lay. -/
structure ColS (Wr : World) (ob : Nat) (out : List Ent) (W : World) : Prop where
  os : W.os = Wr.os
  tape : W.tape = Wr.tape
  output : W.output = Wr.output
  sz : Wr.heap.size ≤ W.heap.size
  keep : ∀ b, b < Wr.heap.size → b ≠ ob → W.heap[b]? = Wr.heap[b]?
  lt : ob < Wr.heap.size
  box : ∃ A5 c5, W.cell? ⟨ob, 0, none⟩ = some (.slice A5 out.length c5) ∧ W.ownsRow Wr.heap.size 32 4 (.slice A5 out.length c5) out.length (env out)
  fz : W.frozen? ⟨ob, 0, none⟩ = false
theorem ColS.blw {Wr W : World} {ob : Nat} {out : List Ent} (h : ColS Wr ob out W) {B : Nat} (hB : B ≤ ob) : Below B Wr W :=
  ⟨h.os, h.tape, h.output, h.sz, fun k hk => h.keep k (by have := h.lt; omega) (by omega)⟩
theorem ColS.cell {Wr W : World} {ob : Nat} {out : List Ent} (h : ColS Wr ob out W) {p : Addr} (h1 : p.block < Wr.heap.size) (h2 : p.block ≠ ob) : W.cell? p = Wr.cell? p := World.cell?_of_block (h.keep _ h1 h2)
theorem ColS.start {Wr W : World} {ob : Nat} (hlt : ob < Wr.heap.size) (hc : Wr.cell? ⟨ob, 0, none⟩ = some (.slice none 0 0)) (hf : Wr.frozen? ⟨ob, 0, none⟩ = false) (hb : Below Wr.heap.size Wr W) : ColS Wr ob [] W :=
  ⟨hb.os, hb.tape, hb.output, hb.size, fun b h _ => hb.block b h, hlt, ⟨none, 0, (hb.cell (p := ⟨ob, 0, none⟩) hlt).trans hc, World.ownsRow_nil _ _ _ _⟩, (hb.frozen (p := ⟨ob, 0, none⟩) hlt).trans hf⟩
theorem ColS.next {Wr W W' : World} {ob : Nat} {out : List Ent} (h : ColS Wr ob out W) (hb : Below W.heap.size W W') : ColS Wr ob out W' := by
  obtain ⟨A5, c5, h1, h2⟩ := h.box
  have hlt : ob < W.heap.size := Nat.lt_of_lt_of_le h.lt h.sz
  exact ⟨hb.os.trans h.os, hb.tape.trans h.tape, hb.output.trans h.output, Nat.le_trans h.sz hb.size, fun b h3 h4 => (hb.block b (Nat.lt_of_lt_of_le h3 h.sz)).trans (h.keep b h3 h4), h.lt, ⟨A5, c5, (hb.cell (p := ⟨ob, 0, none⟩) hlt).trans h1, own_keep h2 hb (Nat.le_refl _)⟩, (hb.frozen (p := ⟨ob, 0, none⟩) hlt).trans h.fz⟩
theorem ColS.nc {Wr W W' : World} {ob : Nat} {out : List Ent} (h : ColS Wr ob out W) (hb : Nc (Wr.heap.size + 1) W W') (hl : ∃ L, W.heap[Wr.heap.size + 1]? = some (.loop L)) : ColS Wr ob out W' := by
  obtain ⟨A5, c5, h1, h2⟩ := h.box
  have hlt := h.lt
  refine ⟨hb.os.trans h.os, hb.tape.trans h.tape, hb.output.trans h.output, by rw [hb.size]; exact h.sz, fun b h3 h4 => (hb.block b (by omega)).trans (h.keep b h3 h4), h.lt, ⟨A5, c5, (World.cell?_of_block (hb.block _ (by show ob ≠ _; omega))).trans h1, ownsRow_of h2 (fun g hg => hb.block g (fun e => ?_))⟩, (World.frozen?_of_block (hb.block _ (by show ob ≠ _; omega))).trans h.fz⟩
  obtain ⟨L, hL⟩ := hl
  rcases h2.2 with ⟨hv, _⟩ | ⟨g', cap, cur, hv, _, hh, _⟩
  · rw [hv] at hg; cases hg
  · rw [hv] at hg
    injection hg with hg
    dsimp only at hg
    rw [hg, e, hL] at hh
    cases hh
/-- The row's block is neither the mark's nor the record's. -/
theorem own_not {W : World} {base s n g b : Nat} {e : TypeId} {v : Value} {xs : List Value} {o : Obj} (h : W.ownsRow base e s v n xs) (hg : v.ownBlock = some g) (hb : W.heap[b]? = some o) (ho : ∀ c t f, o ≠ .cells c t f) : g ≠ b := by
  rintro rfl
  rcases h.2 with ⟨hv, _⟩ | ⟨g', cap, cur, hv, _, hh, _⟩
  · rw [hv] at hg; cases hg
  · rw [hv] at hg
    injection hg with hg
    dsimp only at hg
    rw [hg, hb] at hh
    injection hh with hh
    exact ho _ _ _ hh
theorem ColS.push {Wr W W5 : World} {ob : Nat} {out : List Ent} {v : Value} {x : Ent} {A6 : Option Addr} {c6 : Nat} (h : ColS Wr ob out W) (hv : W.ownsRow Wr.heap.size 32 4 v out.length (env out)) (hg : W.grownBy W5 v.ownBlock)
    (own : W5.ownsRow Wr.heap.size 32 4 (.slice A6 (out.length + 1) c6) (out.length + 1) (env out ++ x.c)) : ColS Wr ob (out ++ [x]) (W5.setCell ⟨ob, 0, none⟩ (.slice A6 (out.length + 1) c6)) ∧ W.heap.size ≤ (W5.setCell ⟨ob, 0, none⟩ (.slice A6 (out.length + 1) c6)).heap.size ∧
    ∀ b o, b ≠ ob → W.heap[b]? = some o → (∀ c t f, o ≠ .cells c t f) → (W5.setCell ⟨ob, 0, none⟩ (.slice A6 (out.length + 1) c6)).heap[b]? = W.heap[b]? := by
  have hlt := h.lt
  have hs := h.sz
  have hgs := hg.size
  have hlow : ∀ b, b < Wr.heap.size → v.ownBlock ≠ some b := fun b hb e => by
    rcases hv.2 with ⟨e2, _⟩ | ⟨g', cap, cur, e2, hlo, _⟩
    · rw [e2] at e; cases e
    · rw [e2] at e
      injection e with e
      dsimp only at e
      omega
  have hob : W5.heap[ob]? = W.heap[ob]? := hg.block ob (by omega) (fun e => hlow ob hlt e.symm)
  have hc : ∃ u, W5.cell? ⟨ob, 0, none⟩ = some u := by
    obtain ⟨A5, c5, h1, _⟩ := h.box
    exact ⟨_, (World.cell?_of_block (a := ⟨ob, 0, none⟩) hob).trans h1⟩
  obtain ⟨u, hc⟩ := hc
  have e1 : (out ++ [x]).length = out.length + 1 := by simp
  refine ⟨⟨hg.os.trans h.os, hg.tape.trans h.tape, hg.output.trans h.output, by simp [World.setCell]; omega, fun b hb hne => ?_, hlt, ⟨A6, c6, ?_, ?_⟩, ?_⟩, by simp [World.setCell]; omega, fun b o hne hb ho => ?_⟩
  · exact (Below.heap_setCell _ _ _ _ hne).trans ((hg.block b (by omega) (fun e => hlow b hb e.symm)).trans (h.keep b hb hne))
  · rw [e1]
    exact World.cell?_setCell_same _ _ _ hc
  · rw [e1, env_app, show env [x] = x.c by simp [env]]
    refine ownsRow_of own (fun g hg2 => Below.heap_setCell _ _ _ _ (fun e2 => ?_))
    change g = ob at e2
    rcases own.2 with ⟨e2, _⟩ | ⟨g', cap, cur, e2, hlo, _⟩
    · rw [e2] at hg2; cases hg2
    · rw [e2] at hg2
      injection hg2 with hg2
      dsimp only at hg2
      omega
  · rw [World.frozen?_setCell]
    exact (World.frozen?_of_block (a := ⟨ob, 0, none⟩) hob).trans h.fz
  · exact (Below.heap_setCell _ _ _ _ hne).trans (hg.block b (Array.getElem?_eq_some_iff.1 hb).1 (fun e => own_not hv e.symm hb ho rfl))
theorem ColS.mid {Wr W W5 : World} {ob : Nat} {out : List Ent} {v : Value} (h : ColS Wr ob out W) (hv : W.ownsRow Wr.heap.size 32 4 v out.length (env out)) (hg : W.grownBy W5 v.ownBlock) : W5.cell? ⟨ob, 0, none⟩ = W.cell? ⟨ob, 0, none⟩ ∧ W5.frozen? ⟨ob, 0, none⟩ = false ∧ ob < W5.heap.size := by
  have hlt := h.lt
  have hs := h.sz
  have hgs := hg.size
  have hob : W5.heap[ob]? = W.heap[ob]? := hg.block ob (by omega) (fun e => by
    rcases hv.2 with ⟨e2, _⟩ | ⟨g', cap, cur, e2, hlo, _⟩
    · rw [e2] at e; cases e
    · rw [e2] at e
      injection e with e
      dsimp only at e
      omega)
  exact ⟨World.cell?_of_block hob, (World.frozen?_of_block (a := ⟨ob, 0, none⟩) hob).trans h.fz, by omega⟩
theorem Nc.bxv {l b : Nat} {W W' : World} {xs : List Value} (h : BxV W b xs) (hn : Nc l W W') (hb : b ≠ l) : BxV W' b xs :=
  ⟨by rw [hn.size]; exact h.lt, fun o => (World.frozen?_of_block (a := ⟨b, o, none⟩) (hn.block b hb)).trans (h.fz o), fun i v hv => (World.cell?_of_block (a := ⟨b, i, none⟩) (hn.block b hb)).trans (h.c i v hv)⟩
theorem tall_any (v : Option Addr) (w : World) : Calls Try.prog 37 #[.pointer v] w fun e w' => ∃ Bx, e = .returned (.func (.func 51) #[] #[.pointer (some ⟨Bx, 0, none⟩)]) ∧ w'.cell? ⟨Bx, 0, none⟩ = some (.pointer v) ∧ Below w.heap.size w w' := by
  go_enter Try.func37, Try.ntmps37
  go_wp2
  go_ret
  exact ⟨w.heap.size, rfl, by rw [World.cell?_alloc_mark]; rfl, (Below.refl _ _).alloc (Nat.le_refl _) _⟩
theorem putObj_belowB {B : Nat} {W : World} {l : Nat} (o : Obj) (h : B ≤ l) : Below B W (W.putObj l o) :=
  ⟨rfl, rfl, rfl, by simp [World.putObj], fun k hk => World.putObj_heap_other (by omega)⟩
theorem leave_all {n : Nat} {W : World} {tmps : Array Value} {R : Ending → World → Prop} {u : Value} (h4 : tmps.getD 4 undef = u) (hR : R (.returned u) W) :
    LeavesInM Fence.wide n Try.prog Try.f14 tmps R [] .returning W := by
  refine ⟨u, ?_, hR⟩
  have h5 : tmps[4]?.getD undef = u := by simpa using h4
  simp [results, Try.results14, go_sem, h5]
set_option maxHeartbeats 4000000 in
theorem all_any (v : Option Addr) (ls : List Ent) (h6 : ls.length ≤ 100000) (m : Nat) (w : World) (hi : Itr w v ls) :
    Calls Try.prog 14 #[.pointer v, .int .i64 (m : Int)] w fun e w' => ∃ u, e = .returned u ∧ w'.ownsRow w.heap.size 32 4 u (ls.take m).length (env (ls.take m)) ∧ Below w.heap.size w w' := by
  have HI := Lib.hid hi
  clear hi
  obtain ⟨E, hE⟩ : ∃ E, E = ls.take m := ⟨_, rfl⟩
  have HE := Lib.hid hE
  rw [← hE]
  clear hE
  refine (callsIn_wide (n := 8)).1 ?_
  refine callsIn_of_wp_marks Try.func14 rfl trivial ?_ rfl
  simp only [Try.ntmps14, List.size_toArray, List.length_cons, List.length_nil, Nat.reduceAdd, Nat.reduceSub, Array.replicate_succ, Array.replicate_zero, List.push_toArray, List.append_toArray, List.nil_append, List.cons_append]
  refine wpIn_wide.2 ?_
  go_wp2_with fail
  have BA : Hid (Below w.heap.size w ((w.alloc (.cells #[.int .i64 (m : Int)] 3)).alloc (.cells #[.slice none 0 0] 22))) := Lib.hid (((Below.refl _ _).alloc (Nat.le_refl _) _).alloc (by simp) _)
  have cA := (((Below.refl _ _).alloc (Nat.le_refl _) (.cells #[.slice none 0 0] 22) : Below (w.alloc (.cells #[.int .i64 (m : Int)] 3)).heap.size (w.alloc (.cells #[.int .i64 (m : Int)] 3)) ((w.alloc (.cells #[.int .i64 (m : Int)] 3)).alloc (.cells #[.slice none 0 0] 22))).cell (p := ⟨w.heap.size, 0, none⟩) (by simp)).trans (World.cell?_alloc_mark w #[.int .i64 (m : Int)] 3 (0, 0) 0)
  have cB := World.cell?_alloc_mark (w.alloc (.cells #[.int .i64 (m : Int)] 3)) #[.slice none 0 0] 22 (0, 0) 0
  have fB := World.frozen?_alloc_at (w := (w.alloc (.cells #[.int .i64 (m : Int)] 3))) #[.slice none 0 0] 22 (w.heap.size + 1) 0 (by simp)
  rw [show (w.alloc (.cells #[.int .i64 (m : Int)] 3)).heap.size = w.heap.size + 1 by simp] at cB
  have lA : w.heap.size + 1 < ((w.alloc (.cells #[.int .i64 (m : Int)] 3)).alloc (.cells #[.slice none 0 0] 22)).heap.size := by simp
  simp only [List.getElem?_toArray, List.getElem?_cons_zero] at cA cB
  have CA := Lib.hid (And.intro cA (And.intro cB fB))
  clear cA cB fB
  generalize ((w.alloc (.cells #[.int .i64 (m : Int)] 3)).alloc (.cells #[.slice none 0 0] 22)) = wa at *
  refine (tall_any v wa).mono ?_
  rintro e w1 ⟨Bx, rfl, hBx, hb1⟩
  have zBx := World.block_lt_of_cell? w1 _ hBx
  have q0 := (hb1.cell (p := ⟨w.heap.size, 0, none⟩) (by show w.heap.size < _; omega)).trans CA.out.1
  have q1 := (hb1.cell (p := ⟨w.heap.size + 1, 0, none⟩) lA).trans CA.out.2.1
  have qf := (hb1.frozen (p := ⟨w.heap.size + 1, 0, none⟩) lA).trans CA.out.2.2
  have lq : w.heap.size + 1 < w1.heap.size := Nat.lt_of_lt_of_le lA hb1.size
  have HB1 : Hid (Below w.heap.size w w1) := Lib.hid (BA.out.trans (hb1.mono BA.out.size))
  have Q0 := Lib.hid q0
  have Q1 := Lib.hid q1
  have QF := Lib.hid qf
  have ZBX := Lib.hid hBx
  clear BA CA lA hb1 q0 q1 qf hBx
  go_wp2
  refine (wpIn_wide (n := 8)).1 ?_
  refine range_mem 8 (by omega) (.tmp 8) 0 Bx v ls h6 w HI.out rfl rfl ZBX.out zBx
    (fun k W => k ≤ m ∧ ColS w1 (w.heap.size + 1) (ls.take k) W) (fun W => ColS w1 (w.heap.size + 1) E W)
    (fun k W h => HB1.out.trans (h.2.blw (B := w.heap.size) (by omega)))
    (fun k W W' h hn hl => ⟨h.1, h.2.nc hn hl⟩) (fun W W' h hn hl => h.nc hn hl)
    (fun W hb => ⟨Nat.zero_le _, ColS.start lq Q1.out QF.out hb⟩) ?_ ?_ ?_
  · intro l k x hk W K hR hd hl hK
    obtain ⟨hkm, hC⟩ := hR
    have HK := Lib.hid hK
    have HC := Lib.hid hC
    have HD := Lib.hid hd
    have HL := Lib.hid hl
    have HX := Lib.hid hk
    have hin : k < ls.length := (List.getElem?_eq_some_iff.1 hk).1
    clear hK hC hd hl hk
    gi_wp2
    have hal : Below W.heap.size W (W.alloc (.cells #[.string x.key, .string x.val, .int .i64 x.seq, .bool x.del] 32)) := (Below.refl _ _).alloc (Nat.le_refl _) _
    have zB : w1.heap.size + 1 < W.heap.size := by obtain ⟨L, hL⟩ := HL.out; exact (Array.getElem?_eq_some_iff.1 hL).1
    refine HK.out _ _ hal.size (hal.block _ (by omega)) (hal.block _ zB) (fun W2 hn hd2 hl2 => ?_)
    have HC2 := Lib.hid ((HC.out.next hal).nc hn (by rw [hal.block _ zB]; exact HL.out))
    have XB := Lib.hid (Nc.bxv (BxV.new W #[.string x.key, .string x.val, .int .i64 x.seq, .bool x.del] 32) hn (by omega))
    have hlk : (ls.take k).length = k := by rw [List.length_take]; omega
    obtain ⟨A5, c5, ho, hown⟩ := HC2.out.box
    have HO := Lib.hid hown
    rw [hlk] at ho
    have fo := HC2.out.fz
    have zo : w.heap.size + 1 < W2.heap.size := Nat.lt_of_lt_of_le lq HC2.out.sz
    have no := (HC2.out.cell (p := ⟨w.heap.size, 0, none⟩) (by show w.heap.size < _; omega) (by show w.heap.size ≠ _; omega)).trans Q0.out
    have HD2 := Lib.hid hd2
    have HL2 := Lib.hid hl2
    have x0 := XB.out.c 0 _ rfl
    have x1 := XB.out.c 1 _ rfl
    have x2 := XB.out.c 2 _ rfl
    have x3 := XB.out.c 3 _ rfl
    have xl := XB.out.lt
    generalize W.heap.size = bx at *
    clear hal hn hd2 hl2 HK HC hown
    by_cases hm : k = m
    · have e1 : ((k : Int) == (m : Int)) = true := by rw [beq_iff_eq]; omega
      gi_wp2
      subst hm
      exact ⟨rfl, by rw [HE.out]; exact HC2.out, Nat.le_refl _, rfl, rfl⟩
    · have e1 : ((k : Int) == (m : Int)) = false := by rw [beq_eq_false_iff_ne]; omega
      have hwal : Below W2.heap.size W2 (W2.alloc (.cells #[.string x.key, .string x.val, .int .i64 x.seq, .bool x.del] 32)) := (Below.refl _ _).alloc (Nat.le_refl _) _
      have HC3 := Lib.hid (HC2.out.next hwal)
      have HO3 := Lib.hid (own_keep HO.out hwal (Nat.le_refl _))
      have zsz := HC2.out.sz
      gi_wp2_with (gi_at_builtin; refine wpListIn_app styE (.tmp 14) (.tmp 16) rfl rfl w1.heap.size HO3.out (by rw [hlk]; rfl) 1 1 (rd_frC _ _ _ _) rfl rfl (by simp [Value.oneCell']) (by unfold maxLen; omega) (by omega) (by rw [World.size_alloc]; omega) ?_; intro v5 w5 own5 gr5 nil5 at5; obtain ⟨A6, c6, rfl, -, -⟩ := own_sl own5; obtain ⟨co5, fo5, zo5⟩ := HC3.out.mid HO3.out gr5; rw [(hwal.cell (p := ⟨w.heap.size + 1, 0, none⟩) zo).trans ho] at co5)
      have P := HC3.out.push (x := x) HO3.out gr5 own5
      rw [hlk] at P
      have hsucc : ls.take (k + 1) = ls.take k ++ [x] := by rw [List.take_add_one, HX.out]; rfl
      obtain ⟨L, hL⟩ := HL2.out
      refine ⟨⟨by omega, by rw [hsucc]; exact P.1⟩, Nat.le_trans hwal.size P.2.1, ?_, ?_⟩
      · exact (P.2.2 _ _ (by omega) ((hwal.block _ (by omega)).trans HD2.out) (fun c t f => by simp)).trans (hwal.block _ (by omega))
      · exact (P.2.2 _ _ (by omega) ((hwal.block _ (Array.getElem?_eq_some_iff.1 hL).1).trans hL) (fun c t f => by simp)).trans (hwal.block _ (Array.getElem?_eq_some_iff.1 hL).1)
  · intro W hR hd
    have HC := Lib.hid hR.2
    rw [show ls.take ls.length = E by rw [HE.out, List.take_length, List.take_of_length_le hR.1]] at HC
    have HD := Lib.hid hd
    clear hR hd
    obtain ⟨A5, c5, ho, hown⟩ := HC.out.box
    have zo := Nat.lt_of_lt_of_le HC.out.lt HC.out.sz
    go_wp2
    have hne : w1.heap.size ≠ w.heap.size + 1 := by omega
    refine ⟨by simp, .inl ⟨_, _, rfl, run_takeDeferred HD.out, ?_⟩⟩
    refine leave_all rfl ⟨_, rfl, ?_, ?_⟩
    · exact own_base (ownsRow_of hown (fun g hg => World.putObj_heap_other (own_not hown hg HD.out (fun c t f => by simp)))) (by omega)
    · exact (HB1.out.trans (HC.out.blw (by omega))).trans (putObj_belowB _ (by omega))
  · intro W hR hd
    have HC := Lib.hid hR
    have HD := Lib.hid hd
    clear hR hd
    refine wpIn_wide.2 ?_
    obtain ⟨A5, c5, ho, hown⟩ := HC.out.box
    have zo := Nat.lt_of_lt_of_le HC.out.lt HC.out.sz
    go_wp2
    have hne : w1.heap.size ≠ w.heap.size + 1 := by omega
    refine ⟨by simp, .inl ⟨_, _, rfl, run_takeDeferred HD.out, ?_⟩⟩
    refine leave_all rfl ⟨_, rfl, ?_, ?_⟩
    · exact own_base (ownsRow_of hown (fun g hg => World.putObj_heap_other (own_not hown hg HD.out (fun c t f => by simp)))) (by omega)
    · exact (HB1.out.trans (HC.out.blw (by omega))).trans (putObj_belowB _ (by omega))
end Go.Proofs.Ytjhgbdeadkoegaa
