/- Trip: worlds that differ in some blocks; laws at map operations; trips as they stand. -/
import Derived.Test.YtnooghehmgbemaaGreatB7
import Derived.Laws.CopyRow
namespace Go.Proofs.YtnooghehmgbemaaGreat
open Go.RowKit
set_option linter.unusedVariables false
set_option linter.unusedSimpArgs false

/-- u is w, but for blocks of X and new ones -/
structure Lies (X : Nat → Prop) (w u : World) : Prop where
  os : u.os = w.os
  tape : u.tape = w.tape
  output : u.output = w.output
  size : w.heap.size ≤ u.heap.size
  block : ∀ k, k < w.heap.size → ¬ X k → u.heap[k]? = w.heap[k]?
section
variable {X : Nat → Prop} {w u v : World}
theorem Lies.refl (X : Nat → Prop) (w : World) : Lies X w w := ⟨rfl, rfl, rfl, Nat.le_refl _, fun _ _ _ => rfl⟩
theorem Lies.trans (h : Lies X w u) (g : Lies X u v) : Lies X w v :=
  ⟨g.os.trans h.os, g.tape.trans h.tape, g.output.trans h.output, Nat.le_trans h.size g.size, fun k hk hx => (g.block k (Nat.lt_of_lt_of_le hk h.size) hx).trans (h.block k hk hx)⟩
theorem Lies.mono {Y : Nat → Prop} (h : Lies X w u) (hY : ∀ k, k < w.heap.size → X k → Y k) : Lies Y w u := ⟨h.os, h.tape, h.output, h.size, fun k hk hy => h.block k hk (fun hx => hy (hY k hk hx))⟩
theorem Lies.of_below (h : Below w.heap.size w u) : Lies X w u := ⟨h.os, h.tape, h.output, h.size, fun k hk _ => h.block k hk⟩
theorem Lies.below {B : Nat} (h : Lies X w u) (hB : B ≤ w.heap.size) (hX : ∀ k, X k → B ≤ k) : Below B w u := ⟨h.os, h.tape, h.output, h.size, fun k hk => h.block k (by omega) (fun hx => by have := hX k hx; omega)⟩
theorem Lies.drew (h : Lies X w u) : Lies X w u.drew := ⟨h.os, h.tape, h.output, h.size, h.block⟩
theorem Lies.alloc (h : Lies X w u) (o : Obj) : Lies X w (u.alloc o) :=
  ⟨h.os, h.tape, h.output, by have := h.size; simp; omega, fun k hk hx => (Below.heap_alloc u o k (Nat.lt_of_lt_of_le hk h.size)).trans (h.block k hk hx)⟩
theorem Lies.grown (h : Lies X w u) {row : Option Nat} (g : u.grownBy v row) (hr : ∀ q, row = some q → X q ∨ w.heap.size ≤ q) : Lies X w v :=
  ⟨g.os.trans h.os, g.tape.trans h.tape, g.output.trans h.output, Nat.le_trans h.size g.size, fun k hk hx => (g.block k (Nat.lt_of_lt_of_le hk h.size) (fun e => (hr k e.symm).elim hx (by omega))).trans (h.block k hk hx)⟩
theorem grown_setRow (u : World) (b : Nat) (cs : Array Value) : u.grownBy (u.setRow b cs) (some b) := ⟨rfl, rfl, rfl, by simp, fun k _ hk => setRow_other _ _ _ _ (fun e => hk (by rw [e]))⟩
theorem grown_setCell (u : World) (p : Addr) (x : Value) : u.grownBy (u.setCell p x) (some p.block) := ⟨rfl, rfl, rfl, by simp [World.setCell], fun k _ hk => Below.heap_setCell _ _ _ _ (fun e => hk (by rw [e]))⟩
theorem Lies.setRow (h : Lies X w u) {b : Nat} (hb : X b ∨ w.heap.size ≤ b) (cs : Array Value) : Lies X w (u.setRow b cs) := h.grown (grown_setRow u b cs) (fun q hq => by cases hq; exact hb)
theorem Lies.setCell (h : Lies X w u) {p : Addr} (hb : X p.block ∨ w.heap.size ≤ p.block) (x : Value) : Lies X w (u.setCell p x) := h.grown (grown_setCell u p x) (fun q hq => by cases hq; exact hb)
theorem Lies.cell (h : Lies X w u) {p : Addr} (hp : p.block < w.heap.size) (hx : ¬ X p.block) : u.cell? p = w.cell? p := World.cell?_of_block (h.block _ hp hx)
theorem block_setCell {w : World} {b o : Nat} {cs : Array Value} {t : TypeId} {fr : Nat × Nat} (h : w.heap[b]? = some (.cells cs t fr)) (x : Value) : (w.setCell ⟨b, o, none⟩ x).heap[b]? = some (.cells (cs.setIfInBounds o x) t fr) := by
  have hlt : b < w.heap.size := (Array.getElem?_eq_some_iff.1 h).1
  have hv : w.heap[b] = .cells cs t fr := (Array.getElem?_eq_some_iff.1 h).2
  simp only [World.setCell, Array.getElem?_modify, if_pos, h, Option.map_some]
  rfl
end
section
variable {P : Program} {ops : Array Oper} {rest : List Oper} {o : Oper} {a : Act} {w : World} {K : Act → World → Prop} {Q : Exit → Act → World → Prop} {S : World → Prop}
theorem wp_mapUpdate (t : TypeId) (m k x : Operand) (ho : o.op = .mapUpdate t m k x) (mv kv xv : Value) (hm : a.eval m = mv) (hk : a.eval k = kv) (hx : a.eval x = xv) (w' : World) (hr : (Instr.mapUpdate t mv kv xv).run P w = .ok () w') (h : K (a.put o.dst undef) w') : o.wp P a w K Q := by
  unfold Oper.wp execOp
  simp only [ho, hm, hk, hx, Sem.run_bind, Sem.run_pure, hr, Result.andThen_ok]
  exact h
theorem wp_mapEntry (t : TypeId) (m k : Operand) (ho : o.op = .mapEntry t m k) (mv kv v : Value) (hm : a.eval m = mv) (hk : a.eval k = kv) (w' : World) (hr : (Instr.mapEntry t mv kv).run P w = .ok v w') (h : K (a.put o.dst v) w') : o.wp P a w K Q := by
  unfold Oper.wp execOp
  simp only [ho, hm, hk, Sem.run_bind, Sem.run_pure, hr, Result.andThen_ok]
  exact h
theorem wp_entryStore (t : TypeId) (m s x : Operand) (ho : o.op = .entryStore t m s x) (mv sv xv : Value) (hm : a.eval m = mv) (hs : a.eval s = sv) (hx : a.eval x = xv) (w' : World) (hr : (Instr.entryStore t mv sv xv).run P w = .ok () w') (h : K (a.put o.dst undef) w') : o.wp P a w K Q := by
  unfold Oper.wp execOp
  simp only [ho, hm, hs, hx, Sem.run_bind, Sem.run_pure, hr, Result.andThen_ok]
  exact h
theorem run_store1 {b off : Nat} {cs : Array Value} {t ty : TypeId} (hb : w.heap[b]? = some (.cells cs t (0, 0))) (ho : off < cs.size) (hi : (P.info? ty).map (·.size) = some 1) {v : Value} (hv : v.cells = #[v]) (h1 : v.oneCell' = true) : (storeVar ty ⟨b, off, none⟩ v).run P w = .ok () (w.setRow b (cs.setIfInBounds off v)) := by
  have := run_storeCells_at (P := P) b off t [v] 0 cs w hb (by simp; omega) (fun x hx => by simp at hx; subst hx; exact h1)
  have e : (cs.toList.take (off + 0) ++ [v] ++ cs.toList.drop (off + 0 + [v].length)).toArray = cs.setIfInBounds off v := by
    apply Array.ext'
    rw [Array.toList_setIfInBounds, List.set_eq_take_append_cons_drop, if_pos (by simpa using ho)]
    simp
  rw [e] at this
  cases hq : P.info? ty with
  | none => simp [hq] at hi
  | some i =>
    have hs : i.size = 1 := by simp [hq] at hi; omega
    simp [storeVar, sizeOf, typeInfo, hq, hv, hs, this]
theorem wpList_store1 (hgd : o.guard = none) (ty : TypeId) (x y : Operand) (ho : o.op = .store ty x y) (b off : Nat) (hx : a.eval x = .pointer (some ⟨b, off, none⟩)) (v : Value) (hy : a.eval y = v) {cs : Array Value} {t : TypeId} (hb : w.heap[b]? = some (.cells cs t (0, 0))) (hof : off < cs.size)
    (hi : (P.info? ty).map (·.size) = some 1) (hv : v.cells = #[v]) (h1 : v.oneCell' = true) (h : wpList P ops Q rest (a.put o.dst undef) (w.setRow b (cs.setIfInBounds off v))) : wpList P ops Q (o :: rest) a w := by
  refine wpList_plain hgd fun _ hK => ?_
  unfold Oper.wp execOp
  simp only [ho, hx, hy, Instr.storeAt, Instr.sureAddr, Sem.run_bind, Sem.run_pure, Result.andThen_ok, run_store1 hb hof hi hv h1]
  exact hK _ _ h
theorem wp_store1 (ty : TypeId) (x y : Operand) (ho : o.op = .store ty x y) (b off : Nat) (hx : a.eval x = .pointer (some ⟨b, off, none⟩)) (v : Value) (hy : a.eval y = v) {cs : Array Value} {t : TypeId} (hb : w.heap[b]? = some (.cells cs t (0, 0))) (hof : off < cs.size)
    (hi : (P.info? ty).map (·.size) = some 1) (hv : v.cells = #[v]) (h1 : v.oneCell' = true) (h : K (a.put o.dst undef) (w.setRow b (cs.setIfInBounds off v))) : o.wp P a w K Q := by
  unfold Oper.wp execOp
  simp only [ho, hx, hy, Instr.storeAt, Instr.sureAddr, Sem.run_bind, Sem.run_pure, Result.andThen_ok, run_store1 hb hof hi hv h1]
  exact h
theorem wp_delete (t t' : TypeId) (m k : Operand) (ho : o.op = .call { callee := .builtin .delete, args := #[m, k], argTypes := #[t, t'] }) (mv kv : Value) (hm : a.eval m = mv) (hk : a.eval k = kv) (w' : World) (hr : (Builtin.delete_ #[t, t'] o.type #[mv, kv]).run P w = .ok (.tuple #[]) w') (h : K (a.put o.dst (.tuple #[])) w') : o.wp P a w K Q := by
  unfold Oper.wp execOp
  simp only [ho, resolve, invoke, builtin, Sem.run_bind, Sem.run_pure, Result.andThen_ok, List.map_toArray, List.map_cons, List.map_nil, hm, hk, hr]
  exact h
end

theorem size3 : (Tryz.prog.info? 3).map (·.size) = some 1 := by kernel_rfl
theorem size26 : (Tryz.prog.info? 60).map (·.size) = some 1 := by kernel_rfl
theorem size30 : (Tryz.prog.info? 73).map (·.size) = some 1 := by kernel_rfl
/-! ### trips as they stand -/
structure Tr where
  k : List Value
  s : Int
  ts : List Int
def Tr.cells (t : Tr) : List Value := t.k ++ .int .u8 t.s :: t.ts.map (.int .i64)
structure Tr.ok (t : Tr) : Prop where
  k : Bs 16 t.k
  s : (Lit.int .u8 t.s).wf = true
  n : t.ts.length = 6
  ts : ∀ x ∈ t.ts, (Lit.int .i64 x).wf = true
def Tr.on (t : Tr) : Prop := t.s ≠ 4 ∧ t.s ≠ 5
def Tr.rider (t : Tr) : List Value := t.k.take 8
def Tr.driver (t : Tr) : List Value := t.k.drop 8
theorem Tr.ok.isT {t : Tr} (h : t.ok) : IsT t.k (.int .u8 t.s) (t.ts.map (.int .i64)) :=
  ⟨h.k, ⟨rfl, fun u hu => ⟨t.s, by simpa using hu, h.s⟩⟩, by rw [Is, List.length_map]; exact ⟨h.n, fun u hu => by obtain ⟨x, hx, rfl⟩ := List.mem_map.1 hu; exact ⟨x, rfl, h.ts x hx⟩⟩⟩
theorem Tr.ok.length {t : Tr} (h : t.ok) : t.cells.length = 23 := by simp [Tr.cells, h.k.1, h.n]
theorem Tr.ok.one {t : Tr} (h : t.ok) : ∀ u ∈ t.cells, u.oneCell' = true := fun u hu => by
  rcases List.mem_append.1 hu with h1 | h1
  · exact h.k.one u h1
  · rcases List.mem_cons.1 h1 with rfl | h2
    · rfl
    · obtain ⟨x, _, rfl⟩ := List.mem_map.1 h2; rfl
theorem cells_inj {a b : Tr} (ha : a.ok) (hb : b.ok) (h : a.cells = b.cells) : a = b := by
  obtain ⟨h1, h2⟩ := List.append_inj h (by rw [ha.k.1, hb.k.1])
  injection h2 with h2 h3
  injection h2 with _ h2
  cases a; cases b
  congr
  have := congrArg (List.map (fun v => match v with | Value.int _ x => x | _ => 0)) h3
  simpa [List.map_map, Function.comp_def] using this
structure St where
  clock : Int
  l : List Tr
structure St.ok (q : St) : Prop where
  c0 : 0 ≤ q.clock
  c1 : q.clock ≤ 1099511627776
  ok : ∀ t ∈ q.l, t.ok
  dk : q.l.Pairwise fun a b => a.k ≠ b.k
  dr : q.l.Pairwise fun a b => a.on → b.on → a.rider ≠ b.rider
  dd : q.l.Pairwise fun a b => a.on → b.on → a.driver ≠ b.driver
def f1 (l : List Tr) : Value → Value → Prop := fun x v => ∃ t ∈ l, x = .agg t.k.toArray ∧ v = .agg t.cells.toArray
def f2 (l : List Tr) : Value → Value → Prop := fun x v => ∃ t ∈ l, t.on ∧ x = .agg t.rider.toArray ∧ v = .agg t.k.toArray
def f3 (l : List Tr) : Value → Value → Prop := fun x v => ∃ t ∈ l, t.on ∧ x = .agg t.driver.toArray ∧ v = .agg t.k.toArray
/-- trips at block tb: their state is q; their blocks are of F -/
structure TripsIn (F : Nat → Prop) (w : World) (tb b1 b2 b3 : Nat) (ov : Value) (q : St) : Prop where
  hd : w.heap[tb]? = some (.cells #[.int .i64 q.clock, ov, .map (some b1), .map (some b2), .map (some b3)] 75 (0, 0))
  m1 : MapF Tryz.prog w 59 b1 (f1 q.l)
  m2 : MapF Tryz.prog w 57 b2 (f2 q.l)
  m3 : MapF Tryz.prog w 57 b3 (f3 q.l)
  ord : w.ownsRow 0 59 16 ov q.l.length ((q.l.map Tr.k).flatMap id)
  n12 : b1 ≠ b2
  n13 : b1 ≠ b3
  n23 : b2 ≠ b3
  ft : F tb
  fb1 : F b1
  fb2 : F b2
  fb3 : F b3
  fo : ∀ g, ov.ownBlock = some g → F g
def TripsAt (F : Nat → Prop) (w : World) (tb : Nat) (q : St) : Prop := (∀ k, F k → k < w.heap.size) ∧ q.ok ∧ ∃ b1 b2 b3 ov, TripsIn F w tb b1 b2 b3 ov q
theorem MapF.congr {P : Program} {w : World} {k : TypeId} {b : Nat} {f g : Value → Value → Prop} (h : MapF P w k b f) (e : ∀ x v, f x v ↔ g x v) : MapF P w k b g := by
  have : f = g := by funext x v; exact propext (e x v)
  exact this ▸ h
theorem TripsIn.tb_lt {F : Nat → Prop} {w : World} {tb b1 b2 b3 : Nat} {ov : Value} {q : St} (h : TripsIn F w tb b1 b2 b3 ov q) : tb < w.heap.size := (Array.getElem?_eq_some_iff.1 h.hd).1
section
variable {F : Nat → Prop} {w : World} {tb b1 b2 b3 : Nat} {ov : Value} {q : St}
theorem TripsIn.c (h : TripsIn F w tb b1 b2 b3 ov q) : w.cell? ⟨tb, 0, none⟩ = some (.int .i64 q.clock) ∧ w.cell? ⟨tb, 1, none⟩ = some ov ∧ w.cell? ⟨tb, 2, none⟩ = some (.map (some b1)) ∧ w.cell? ⟨tb, 3, none⟩ = some (.map (some b2)) ∧ w.cell? ⟨tb, 4, none⟩ = some (.map (some b3)) := by
  refine ⟨?_, ?_, ?_, ?_, ?_⟩ <;> rw [cell_of_row w tb _ _ _ _ h.hd] <;> rfl
/-- the blocks are five, or four -/
theorem TripsIn.ne (h : TripsIn F w tb b1 b2 b3 ov q) : tb ≠ b1 ∧ tb ≠ b2 ∧ tb ≠ b3 ∧ ov.ownBlock ≠ some tb ∧ ov.ownBlock ≠ some b1 ∧ ov.ownBlock ≠ some b2 ∧ ov.ownBlock ≠ some b3 := by
  have ho : ∀ g, ov.ownBlock = some g → ∃ cur, w.heap[g]? = some (.cells cur 59 (0, 0)) := fun g hg => by
    rcases h.ord.2 with ⟨rfl, _⟩ | ⟨g', cap, cur, rfl, _, h1, _⟩
    · cases hg
    · cases hg; exact ⟨cur, h1⟩
  have hm : ∀ b k f, MapF Tryz.prog w k b f → ∃ es c, w.heap[b]? = some (.map es c) := fun b k f ⟨es, c, h1, _⟩ => ⟨es, c, h1⟩
  obtain ⟨e1, c1, h1⟩ := hm _ _ _ h.m1
  obtain ⟨e2, c2, h2⟩ := hm _ _ _ h.m2
  obtain ⟨e3, c3, h3⟩ := hm _ _ _ h.m3
  refine ⟨?_, ?_, ?_, ?_, ?_, ?_, ?_⟩
  · rintro rfl; have := h.hd.symm.trans h1; cases this
  · rintro rfl; have := h.hd.symm.trans h2; cases this
  · rintro rfl; have := h.hd.symm.trans h3; cases this
  all_goals
    intro e
    obtain ⟨cur, hc⟩ := ho _ e
  · have := h.hd.symm.trans hc; injection this with this; injection this with _ this; cases this
  · have := h1.symm.trans hc; cases this
  · have := h2.symm.trans hc; cases this
  · have := h3.symm.trans hc; cases this
/-- carried to a world in which their blocks lie as they lay -/
theorem TripsIn.of_blocks {G : Nat → Prop} {u : World} (h : TripsIn F w tb b1 b2 b3 ov q) (hb : ∀ k, F k → u.heap[k]? = w.heap[k]?) (hG : ∀ k, F k → G k) : TripsIn G u tb b1 b2 b3 ov q where
  hd := (hb _ h.ft).trans h.hd
  m1 := h.m1.of_block (hb _ h.fb1)
  m2 := h.m2.of_block (hb _ h.fb2)
  m3 := h.m3.of_block (hb _ h.fb3)
  ord := ⟨h.ord.1, by
    rcases h.ord.2 with e | ⟨g, cap, cur, h1, h2, h3, h4⟩
    · exact .inl e
    · exact .inr ⟨g, cap, cur, h1, h2, (hb _ (h.fo g (by rw [h1]; rfl))).trans h3, h4⟩⟩
  n12 := h.n12
  n13 := h.n13
  n23 := h.n23
  ft := hG _ h.ft
  fb1 := hG _ h.fb1
  fb2 := hG _ h.fb2
  fb3 := hG _ h.fb3
  fo := fun g hg => hG _ (h.fo g hg)
theorem TripsAt.of_lies {X : Nat → Prop} {u : World} (h : TripsAt F w tb q) (hl : Lies X w u) (hX : ∀ k, F k → ¬ X k) : TripsAt F u tb q := by
  obtain ⟨hF, hq, b1, b2, b3, ov, h⟩ := h
  exact ⟨fun k hk => Nat.lt_of_lt_of_le (hF k hk) hl.size, hq, b1, b2, b3, ov, h.of_blocks (fun k hk => hl.block k (hF k hk) (hX k hk)) (fun _ hk => hk)⟩
end
end Go.Proofs.YtnooghehmgbemaaGreat
