/- Top, base: worlds that grow; laws at operations on whole rows and on single cells. -/
import Derived.Test.YtikjelkehcnjmaaRows
import Derived.WalkKit
import Derived.WalkSpells
import Derived.WalkLawsBesides
import Derived.Deep.QuietTactic
import Derived.BigQuiet
import Derived.Deep.WholeRow
import Derived.Deep.MidRow
import Derived.OrdersHeld
import Derived.Deep.RegionHeld
import Derived.Lib.Hide
import Derived.Laws.CopyRow
import Derived.Deep.LoopGhost
namespace Go.Proofs.Ytikjelkehcnjmaa
open Go.RowKit
set_option linter.unusedVariables false
set_option linter.unusedSimpArgs false

/-- A world in which all that lay below B in w lies as it lay. -/
structure BW (B : Nat) (w : World) where
  i : World
  h : Below B w i

instance {B : Nat} {w : World} : Nonempty (BW B w) := ⟨⟨w, Below.refl _ _⟩⟩
def BW.refl (B : Nat) (w : World) : BW B w := ⟨w, Below.refl _ _⟩

@[go_sem] theorem BW.cell {B : Nat} {w : World} (x : BW B w) {p : Addr} (hp : p.block < B) : x.i.cell? p = w.cell? p := x.h.cell hp
@[go_sem] theorem BW.frozen {B : Nat} {w : World} (x : BW B w) {p : Addr} (hp : p.block < B) : x.i.frozen? p = w.frozen? p := x.h.frozen hp
theorem BW.size {B : Nat} {w : World} (x : BW B w) : w.heap.size ≤ x.i.heap.size := x.h.size
def BW.up {B : Nat} {w : World} (x : BW B w) (y : BW x.i.heap.size x.i) (hB : B ≤ w.heap.size) : BW B w :=
  ⟨y.i, x.h.trans (y.h.mono (Nat.le_trans hB x.h.size))⟩
@[go_sem] theorem BW.up_i {B : Nat} {w : World} (x : BW B w) (y : BW x.i.heap.size x.i) (hB : B ≤ w.heap.size) : (x.up y hB).i = y.i := rfl

/-- The call returns v, and what was there lies as it lay. -/
def Gives (v : Value) (w : World) : Ending → World → Prop := fun e w' => e = .returned v ∧ ∃ x : BW w.heap.size w, w' = x.i

theorem gives_same {v : Value} {w : World} : Gives v w (.returned v) w := ⟨rfl, BW.refl _ _, rfl⟩
theorem gives_of {v : Value} {w w' : World} (h : Below w.heap.size w w') : Gives v w (.returned v) w' := ⟨rfl, ⟨w', h⟩, rfl⟩
theorem gives_of_eq {u v : Value} {w w' : World} (e : u = v) (h : Below w.heap.size w w') : Gives v w (.returned u) w' := by subst e; exact gives_of h

/-- The call returns v and leaves the world alone. -/
def Keeps (v : Value) (w : World) : Ending → World → Prop := fun e w' => e = .returned v ∧ w = w'
theorem keeps_eq {u v : Value} {w : World} (e : u = v) : Keeps v w (.returned u) w := by subst e; exact ⟨rfl, rfl⟩

theorem Calls.bw_of {P : Program} {f : FuncId} {args : Array Value} {B : Nat} {w : World} {x : BW B w} {v : Value} (hB : B ≤ w.heap.size)
    (h : Calls P f args x.i (Gives v x.i)) : Calls P f args x.i fun e w'' => e = .returned v ∧ ∃ y : BW B w, w'' = y.i :=
  h.mono fun _ _ ⟨he, y, hy⟩ => ⟨he, x.up y hB, hy⟩

theorem Calls.bw_same {P : Program} {f : FuncId} {args : Array Value} {B : Nat} {w : World} {x : BW B w} {v : Value}
    (h : Calls P f args x.i (Keeps v x.i)) : Calls P f args x.i fun e w'' => e = .returned v ∧ ∃ y : BW B w, w'' = y.i :=
  h.mono fun _ _ ⟨he, hy⟩ => ⟨he, x, hy.symm⟩

/-- A region that draws its order, its operations reading and its calls only making memory: one walk. -/
theorem wp_region_bw {P : Program} {id : Nat} {Q : Exit → Act → World → Prop} {a : Act} {w : World} {l : List Oper} (B : Nat) (W : World) (hw : Below B W w) (hm : P.follows .mixedOrders = true) (hB : Region.lexB .any l.toArray = true)
    (h : wpQuiet P l.toArray (fun w' => ∃ x : BW B W, w' = x.i) (fun a' => ∀ x : BW B W, Q .normal a' x.i) l a) : (Code.region id l.toArray true).wp P Q a w :=
  wp_region_quiet (C := fun w' => ∃ x : BW B W, w' = x.i) hm hB ⟨⟨{ w with drawn := w.drawn + 1 }, hw.drew⟩, rfl⟩
    (by
      have e : (fun a' => ∀ w', (∃ x : BW B W, w' = x.i) → Q .normal a' w') = fun a' => ∀ x : BW B W, Q .normal a' x.i := by
        funext a'
        exact propext ⟨fun h x => h _ ⟨x, rfl⟩, fun h w' ⟨x, hx⟩ => hx ▸ h x⟩
      rw [e]
      simpa using h)
theorem Calls.bw_at {P : Program} {f : FuncId} {args : Array Value} {B : Nat} {W w : World} {v : Value} (hw : Below B W w) (hB : B ≤ w.heap.size)
    (h : Calls P f args w (Gives v w)) : Calls P f args w fun e w'' => e = .returned v ∧ ∃ y : BW B W, w'' = y.i :=
  h.mono fun _ _ ⟨he, y, hy⟩ => ⟨he, ⟨y.i, hw.trans (y.h.mono hB)⟩, hy⟩

theorem Calls.bw_at_same {P : Program} {f : FuncId} {args : Array Value} {B : Nat} {W w : World} {v : Value} (hw : Below B W w)
    (h : Calls P f args w (Keeps v w)) : Calls P f args w fun e w'' => e = .returned v ∧ ∃ y : BW B W, w'' = y.i :=
  h.mono fun _ _ ⟨he, hy⟩ => ⟨he, ⟨w, hw⟩, hy.symm⟩


section
variable {P : Program} {ops : Array Oper} {rest : List Oper} {op : Oper} {a : Act} {w : World} {K : Act → World → Prop} {Q : Exit → Act → World → Prop} {S : World → Prop}
theorem yields_loadrow (hw : Region.wanted op (yielded ops a.tmps) = true) (ty : TypeId) (x : Operand) (ho : op.op = .load ty x) (b : Nat) (hx : a.eval x = .pointer (some ⟨b, 0, none⟩)) (cs : Array Value) (t : TypeId) (d : TypeDesc)
    (hS : ∀ u, S u → u.heap[b]? = some (.cells cs t (0, 0))) (hu : P.underlying ty = some d) (hd : d.isRow = true) (hi : (P.info? ty).map (·.size) = some cs.size) : YieldsIf P ops S op (.agg cs) a :=
  .inl ⟨hw, fun u hu' => by
    have h := run_loadVar_row (P := P) u b t ty cs (0, 0) d (hS u hu') hu (by cases d <;> first | rfl | cases hd) hi
    unfold execOp
    simp only [ho, hx, Instr.loadAt, Instr.sureAddr, Sem.run_bind, Sem.run_pure, Result.andThen_ok, h]⟩
theorem wp_loadrow (ty : TypeId) (x : Operand) (ho : op.op = .load ty x) (b : Nat) (hx : a.eval x = .pointer (some ⟨b, 0, none⟩)) (cs : Array Value) (t : TypeId) (d : TypeDesc)
    (hS : w.heap[b]? = some (.cells cs t (0, 0))) (hu : P.underlying ty = some d) (hd : d.isRow = true) (hi : (P.info? ty).map (·.size) = some cs.size) (h : K (a.put op.dst (.agg cs)) w) : op.wp P a w K Q := by
  have h1 := run_loadVar_row (P := P) w b t ty cs (0, 0) d hS hu (by cases d <;> first | rfl | cases hd) hi
  unfold Oper.wp execOp
  simp only [ho, hx, Instr.loadAt, Instr.sureAddr, Sem.run_bind, Sem.run_pure, Result.andThen_ok, h1]
  exact h
theorem wpList_loadrow (hgd : op.guard = none) (ty : TypeId) (x : Operand) (ho : op.op = .load ty x) (b : Nat) (hx : a.eval x = .pointer (some ⟨b, 0, none⟩)) (cs : Array Value) (t : TypeId) (d : TypeDesc)
    (hS : w.heap[b]? = some (.cells cs t (0, 0))) (hu : P.underlying ty = some d) (hd : d.isRow = true) (hi : (P.info? ty).map (·.size) = some cs.size) (h : wpList P ops Q rest (a.put op.dst (.agg cs)) w) : wpList P ops Q (op :: rest) a w :=
  wpList_plain hgd fun _ hK => wp_loadrow ty x ho b hx cs t d hS hu hd hi (hK _ _ h)
theorem wp_storerow (ty : TypeId) (x y : Operand) (ho : op.op = .store ty x y) (b : Nat) (hx : a.eval x = .pointer (some ⟨b, 0, none⟩)) (cs c' : Array Value) (hy : a.eval y = .agg c')
    (hS : w.heap[b]? = some (.cells cs ty (0, 0))) (hi : (P.info? ty).map (·.size) = some c'.size) (hc : cs.size = c'.size) (h1 : c'.all (·.oneCell') = true) (h : K (a.put op.dst undef) (w.setRow b c')) : op.wp P a w K Q := by
  have h2 := run_storeVar_row (P := P) w b ty ty cs c' hS hi hc h1
  unfold Oper.wp execOp
  simp only [ho, hx, hy, Instr.storeAt, Instr.sureAddr, Sem.run_bind, Sem.run_pure, Result.andThen_ok, h2]
  exact h
theorem wpList_storerow (hgd : op.guard = none) (ty : TypeId) (x y : Operand) (ho : op.op = .store ty x y) (b : Nat) (hx : a.eval x = .pointer (some ⟨b, 0, none⟩)) (cs c' : Array Value) (hy : a.eval y = .agg c')
    (hS : w.heap[b]? = some (.cells cs ty (0, 0))) (hi : (P.info? ty).map (·.size) = some c'.size) (hc : cs.size = c'.size) (h1 : c'.all (·.oneCell') = true) (h : wpList P ops Q rest (a.put op.dst undef) (w.setRow b c')) : wpList P ops Q (op :: rest) a w :=
  wpList_plain hgd fun _ hK => wp_storerow ty x y ho b hx cs c' hy hS hi hc h1 (hK _ _ h)
theorem wp_allocz (t : TypeId) (ho : op.op = .alloc t) (z : Array Value) (n : Nat) (hz : (P.info? t).map (fun i => (i.zero, i.size)) = some (some (.agg z), n)) (h : K (a.put op.dst (.pointer (some ⟨w.heap.size, 0, none⟩))) (w.alloc (.cells z t))) : op.wp P a w K Q := by
  have h1 := (zero_of_info hz).1 w
  unfold Oper.wp execOp
  simp only [ho, Instr.alloc, Sem.run_bind, Sem.run_pure, h1, Result.andThen_ok]
  have e : (newVar t (.agg z)).run P w = .ok ⟨w.heap.size, 0, none⟩ (w.alloc (.cells z t)) := by
    simp [newVar, Value.cells, go_sem]
  simp only [e, Result.andThen_ok]
  exact h
theorem wpList_allocz (hgd : op.guard = none) (t : TypeId) (ho : op.op = .alloc t) (z : Array Value) (n : Nat) (hz : (P.info? t).map (fun i => (i.zero, i.size)) = some (some (.agg z), n)) (h : wpList P ops Q rest (a.put op.dst (.pointer (some ⟨w.heap.size, 0, none⟩))) (w.alloc (.cells z t))) : wpList P ops Q (op :: rest) a w :=
  wpList_plain hgd fun _ hK => wp_allocz t ho z n hz (hK _ _ h)
theorem wpList_build (hgd : op.guard = none) (t : TypeId) (ho : op.op = .build t #[]) (z : Value) (hb : ∀ u : World, (Instr.build t #[]).run P u = .ok z u) (h : wpList P ops Q rest (a.put op.dst z) w) : wpList P ops Q (op :: rest) a w := by
  refine wpList_plain hgd fun _ hK => ?_
  unfold Oper.wp execOp
  simp only [ho, List.map_toArray, List.map_nil, Sem.run_bind, Sem.run_pure, hb w, Result.andThen_ok]
  exact hK _ _ h
theorem wpList_index (hgd : op.guard = none) (t : TypeId) (x y : Operand) (ho : op.op = .index t x y) (xv yv v : Value) (hx : a.eval x = xv) (hy : a.eval y = yv) (hb : ∀ u : World, (Instr.index t xv yv).run P u = .ok v u) (h : wpList P ops Q rest (a.put op.dst v) w) : wpList P ops Q (op :: rest) a w := by
  refine wpList_plain hgd fun _ hK => ?_
  unfold Oper.wp execOp
  simp only [ho, hx, hy, Sem.run_bind, Sem.run_pure, hb w, Result.andThen_ok]
  exact hK _ _ h
end
theorem heap_last (w : World) (o : Obj) : (w.alloc o).heap[w.heap.size]? = some o := heap_alloc_last w o
theorem heap_last1 (w : World) (o o' : Obj) : ((w.alloc o).alloc o').heap[w.heap.size + 1]? = some o' := by
  have := heap_last (w.alloc o) o'
  rwa [World.size_alloc] at this
theorem heap_first (w : World) (o o' : Obj) : ((w.alloc o).alloc o').heap[w.heap.size]? = some o := (Below.heap_alloc _ _ _ (by simp)).trans (heap_last w o)
theorem Below.setRow {B : Nat} {w u : World} (h : Below B w u) {b : Nat} (hb : B ≤ b) (cs : Array Value) : Below B w (u.setRow b cs) :=
  ⟨h.os, h.tape, h.output, by simp; exact h.size, fun k hk => (setRow_other u b k cs (by omega)).trans (h.block k hk)⟩
theorem results_cell {f : Func} {tmps : Array Value} {w : World} {a c : Tmp} {t tt : TypeId} {b : Nat} {cs : Array Value} {v : Value} {d : TypeDesc} (hf : f.results = #[.cell a t, .tmp c]) (ha : tmps[a]?.getD undef = .pointer (some ⟨b, 0, none⟩)) (hc : tmps[c]?.getD undef = v)
    (hh : w.heap[b]? = some (.cells cs tt (0, 0))) (hu : Try.prog.underlying t = some d) (hd : d.isRow = true) (hi : (Try.prog.info? t).map (·.size) = some cs.size) : (results f tmps).run Try.prog w = .ok (.tuple #[.agg cs, v]) w := by
  have h := run_loadVar_row (P := Try.prog) w b tt t cs (0, 0) d hh hu (by cases d <;> first | rfl | cases hd) hi
  have e1 : (asAddr (.pointer (some ⟨b, 0, none⟩))).run Try.prog w = .ok ⟨b, 0, none⟩ w := rfl
  simp [results, hf, ha, hc, h, e1, Result.andThen]

/-- u is w, but for blocks of X and new ones -/
structure Lies (X : Nat → Prop) (w u : World) : Prop where
  os : u.os = w.os
  tape : u.tape = w.tape
  output : u.output = w.output
  size : w.heap.size ≤ u.heap.size
  block : ∀ k, k < w.heap.size → ¬ X k → u.heap[k]? = w.heap[k]?
section
variable {X : Nat → Prop} {w u v : World}
theorem Lies.refl (X : Nat → Prop) (w : World) : Lies X w w := ⟨rfl, rfl, rfl, Nat.le_refl _, fun _ _ _ => rfl⟩
theorem Lies.trans (h : Lies X w u) (g : Lies X u v) : Lies X w v :=
  ⟨g.os.trans h.os, g.tape.trans h.tape, g.output.trans h.output, Nat.le_trans h.size g.size, fun k hk hx => (g.block k (Nat.lt_of_lt_of_le hk h.size) hx).trans (h.block k hk hx)⟩
theorem Lies.mono {Y : Nat → Prop} (h : Lies X w u) (hY : ∀ k, k < w.heap.size → X k → Y k) : Lies Y w u := ⟨h.os, h.tape, h.output, h.size, fun k hk hy => h.block k hk (fun hx => hy (hY k hk hx))⟩
theorem Lies.of_below (h : Below w.heap.size w u) : Lies X w u := ⟨h.os, h.tape, h.output, h.size, fun k hk _ => h.block k hk⟩
theorem Lies.below {B : Nat} (h : Lies X w u) (hB : B ≤ w.heap.size) (hX : ∀ k, X k → B ≤ k) : Below B w u := ⟨h.os, h.tape, h.output, h.size, fun k hk => h.block k (by omega) (fun hx => by have := hX k hx; omega)⟩
theorem Lies.drew (h : Lies X w u) : Lies X w u.drew := ⟨h.os, h.tape, h.output, h.size, h.block⟩
theorem Lies.alloc (h : Lies X w u) (o : Obj) : Lies X w (u.alloc o) :=
  ⟨h.os, h.tape, h.output, by have := h.size; simp; omega, fun k hk hx => (Below.heap_alloc u o k (Nat.lt_of_lt_of_le hk h.size)).trans (h.block k hk hx)⟩
theorem Lies.grown (h : Lies X w u) {row : Option Nat} (g : u.grownBy v row) (hr : ∀ q, row = some q → X q ∨ w.heap.size ≤ q) : Lies X w v :=
  ⟨g.os.trans h.os, g.tape.trans h.tape, g.output.trans h.output, Nat.le_trans h.size g.size, fun k hk hx => (g.block k (Nat.lt_of_lt_of_le hk h.size) (fun e => (hr k e.symm).elim hx (by omega))).trans (h.block k hk hx)⟩
theorem grown_setRow (u : World) (b : Nat) (cs : Array Value) : u.grownBy (u.setRow b cs) (some b) := ⟨rfl, rfl, rfl, by simp, fun k _ hk => setRow_other _ _ _ _ (fun e => hk (by rw [e]))⟩
theorem grown_setCell (u : World) (p : Addr) (x : Value) : u.grownBy (u.setCell p x) (some p.block) := ⟨rfl, rfl, rfl, by simp [World.setCell], fun k _ hk => Below.heap_setCell _ _ _ _ (fun e => hk (by rw [e]))⟩
theorem Lies.setRow (h : Lies X w u) {b : Nat} (hb : X b ∨ w.heap.size ≤ b) (cs : Array Value) : Lies X w (u.setRow b cs) := h.grown (grown_setRow u b cs) (fun q hq => by cases hq; exact hb)
theorem Lies.setCell (h : Lies X w u) {p : Addr} (hb : X p.block ∨ w.heap.size ≤ p.block) (x : Value) : Lies X w (u.setCell p x) := h.grown (grown_setCell u p x) (fun q hq => by cases hq; exact hb)
theorem Lies.cell (h : Lies X w u) {p : Addr} (hp : p.block < w.heap.size) (hx : ¬ X p.block) : u.cell? p = w.cell? p := World.cell?_of_block (h.block _ hp hx)
theorem block_setCell {w : World} {b o : Nat} {cs : Array Value} {t : TypeId} {fr : Nat × Nat} (h : w.heap[b]? = some (.cells cs t fr)) (x : Value) : (w.setCell ⟨b, o, none⟩ x).heap[b]? = some (.cells (cs.setIfInBounds o x) t fr) := by
  have hlt : b < w.heap.size := (Array.getElem?_eq_some_iff.1 h).1
  have hv : w.heap[b] = .cells cs t fr := (Array.getElem?_eq_some_iff.1 h).2
  simp only [World.setCell, Array.getElem?_modify, if_pos, h, Option.map_some]
  rfl
end
section
variable {P : Program} {ops : Array Oper} {rest : List Oper} {o : Oper} {a : Act} {w : World} {K : Act → World → Prop} {Q : Exit → Act → World → Prop} {S : World → Prop}
theorem run_store1 {b off : Nat} {cs : Array Value} {t ty : TypeId} (hb : w.heap[b]? = some (.cells cs t (0, 0))) (ho : off < cs.size) (hi : (P.info? ty).map (·.size) = some 1) {v : Value} (hv : v.cells = #[v]) (h1 : v.oneCell' = true) : (storeVar ty ⟨b, off, none⟩ v).run P w = .ok () (w.setRow b (cs.setIfInBounds off v)) := by
  have := run_storeCells_at (P := P) b off t [v] 0 cs w hb (by simp; omega) (fun x hx => by simp at hx; subst hx; exact h1)
  have e : (cs.toList.take (off + 0) ++ [v] ++ cs.toList.drop (off + 0 + [v].length)).toArray = cs.setIfInBounds off v := by
    apply Array.ext'
    rw [Array.toList_setIfInBounds, List.set_eq_take_append_cons_drop, if_pos (by simpa using ho)]
    simp
  rw [e] at this
  cases hq : P.info? ty with
  | none => simp [hq] at hi
  | some i =>
    have hs : i.size = 1 := by simp [hq] at hi; omega
    simp [storeVar, sizeOf, typeInfo, hq, hv, hs, this]
theorem wpList_store1 (hgd : o.guard = none) (ty : TypeId) (x y : Operand) (ho : o.op = .store ty x y) (b off : Nat) (hx : a.eval x = .pointer (some ⟨b, off, none⟩)) (v : Value) (hy : a.eval y = v) {cs : Array Value} {t : TypeId} (hb : w.heap[b]? = some (.cells cs t (0, 0))) (hof : off < cs.size)
    (hi : (P.info? ty).map (·.size) = some 1) (hv : v.cells = #[v]) (h1 : v.oneCell' = true) (h : wpList P ops Q rest (a.put o.dst undef) (w.setRow b (cs.setIfInBounds off v))) : wpList P ops Q (o :: rest) a w := by
  refine wpList_plain hgd fun _ hK => ?_
  unfold Oper.wp execOp
  simp only [ho, hx, hy, Instr.storeAt, Instr.sureAddr, Sem.run_bind, Sem.run_pure, Result.andThen_ok, run_store1 hb hof hi hv h1]
  exact hK _ _ h
theorem wp_store1 (ty : TypeId) (x y : Operand) (ho : o.op = .store ty x y) (b off : Nat) (hx : a.eval x = .pointer (some ⟨b, off, none⟩)) (v : Value) (hy : a.eval y = v) {cs : Array Value} {t : TypeId} (hb : w.heap[b]? = some (.cells cs t (0, 0))) (hof : off < cs.size)
    (hi : (P.info? ty).map (·.size) = some 1) (hv : v.cells = #[v]) (h1 : v.oneCell' = true) (h : K (a.put o.dst undef) (w.setRow b (cs.setIfInBounds off v))) : o.wp P a w K Q := by
  unfold Oper.wp execOp
  simp only [ho, hx, hy, Instr.storeAt, Instr.sureAddr, Sem.run_bind, Sem.run_pure, Result.andThen_ok, run_store1 hb hof hi hv h1]
  exact h
end
section
variable {P : Program} {ops : Array Oper} {rest : List Oper} {op : Oper} {a : Act} {w : World} {K : Act → World → Prop} {Q : Exit → Act → World → Prop} {S : World → Prop}
/-- an operation whose guard lets it by -/
theorem wpList_w (hw : Region.wanted op (yielded ops a.tmps) = true) (h : ∀ K : Act → World → Prop, (∀ a' w', wpList P ops Q rest a' w' → K a' w') → op.wp P a w K Q) : wpList P ops Q (op :: rest) a w := by
  unfold wpList
  rw [if_pos hw]
  exact .inl (h _ (fun _ _ h => h))
theorem wpList_loadrow_g (hw : Region.wanted op (yielded ops a.tmps) = true) (ty : TypeId) (x : Operand) (ho : op.op = .load ty x) (b : Nat) (hx : a.eval x = .pointer (some ⟨b, 0, none⟩)) (cs : Array Value) (t : TypeId) (d : TypeDesc)
    (hS : w.heap[b]? = some (.cells cs t (0, 0))) (hu : P.underlying ty = some d) (hd : d.isRow = true) (hi : (P.info? ty).map (·.size) = some cs.size) (h : wpList P ops Q rest (a.put op.dst (.agg cs)) w) : wpList P ops Q (op :: rest) a w :=
  wpList_w hw fun _ hK => wp_loadrow ty x ho b hx cs t d hS hu hd hi (hK _ _ h)
theorem wpList_loadmid_g (hw : Region.wanted op (yielded ops a.tmps) = true) (ty : TypeId) (x : Operand) (ho : op.op = .load ty x) (b o : Nat) (hx : a.eval x = .pointer (some ⟨b, o, none⟩)) (cs : List Value) (d : TypeDesc) (hc : w.rangeAt b o cs)
    (hu : P.underlying ty = some d) (hd : d.isRow = true) (hi : (P.info? ty).map (·.size) = some cs.length) (h : wpList P ops Q rest (a.put op.dst (.agg cs.toArray)) w) : wpList P ops Q (op :: rest) a w :=
  wpList_w hw fun _ hK => wp_load_mid ty x ho b o hx cs d hc hu hd hi (hK _ _ h)
theorem wpList_build_g (hw : Region.wanted op (yielded ops a.tmps) = true) (t : TypeId) (ps : Array (Nat × Operand)) (ho : op.op = .build t ps) (z : Value) (hb : ∀ u : World, (Instr.build t (ps.map fun (i, x) => (i, a.eval x))).run P u = .ok z u) (h : wpList P ops Q rest (a.put op.dst z) w) : wpList P ops Q (op :: rest) a w := by
  refine wpList_w hw fun _ hK => ?_
  unfold Oper.wp execOp
  simp only [ho, Sem.run_bind, Sem.run_pure, hb w, Result.andThen_ok]
  exact hK _ _ h
theorem wpList_eq_g (hw : Region.wanted op (yielded ops a.tmps) = true) (ne : Bool) (t s : TypeId) (x y : Operand) (ho : op.op = .binOp (if ne then .neq else .eql) t x y s) (xs ys : Array Value) (v : Value) (hx : a.eval x = .agg xs) (hy : a.eval y = .agg ys) (hm : P.eqGuardType P.depth t = false) (hr : (binOp (if ne then .neq else .eql) t (.agg xs) (.agg ys)).run P w = .ok v w) (h : wpList P ops Q rest (a.put op.dst v) w) : wpList P ops Q (op :: rest) a w := by
  refine wpList_w hw fun _ hK => ?_
  have hg := run_eqGuard_agg (P := P) (w := w) (if ne then BinOp.neq else .eql) t x y xs ys hm
  unfold Oper.wp execOp
  simp only [ho, hx, hy, Sem.run_bind, Sem.run_pure, hg, hr, Result.andThen_ok]
  exact hK _ _ h
end
section
variable {P : Program} {ops : Array Oper} {rest : List Oper} {o : Oper} {a : Act} {C : World → Prop} {Q : Act → Prop}
theorem wpQuiet_yields {v : Value} (hy : YieldsIf P ops C o v a) (h : wpQuiet P ops C Q rest (a.put o.dst v)) : wpQuiet P ops C Q (o :: rest) a := by
  rcases hy with ⟨hw, hv⟩ | ⟨hw, rfl⟩
  · refine BigFrame.wpQuiet_want hw fun K hK => ⟨v, fun w hw' => ?_, hK _ h⟩
    unfold Oper.quietAt
    rw [hv w hw']
    exact ⟨rfl, rfl⟩
  · exact BigFrame.wpQuiet_skip hw h
theorem wpQuiet_calls {v : Value} {f : FuncId} {args : Array Value} (hw : Region.wanted o (yielded ops a.tmps) = true) (hx : ∀ w, C w → (execOp a.eval o).run P w = .ok (.enter f args) w) (hc : ∀ w, C w → Calls P f args w fun e w'' => e = .returned v ∧ C w'')
    (h : wpQuiet P ops C Q rest (a.put o.dst v)) : wpQuiet P ops C Q (o :: rest) a := by
  refine BigFrame.wpQuiet_want hw fun K hK => ⟨v, fun w hw' => ?_, hK _ h⟩
  unfold Oper.quietAt
  rw [hx w hw']
  exact ⟨rfl, hc w hw'⟩
end
theorem wp_region_bel {P : Program} {id : Nat} {Q : Exit → Act → World → Prop} {a : Act} {w : World} {l : List Oper} (B : Nat) (W : World) (hw : Below B W w) (hm : P.follows .mixedOrders = true) (hB : Region.lexB .any l.toArray = true)
    (h : wpQuiet P l.toArray (Below B W) (fun a' => ∀ u, Below B W u → Q .normal a' u) l a) : (Code.region id l.toArray true).wp P Q a w :=
  wp_region_quiet (C := Below B W) hm hB hw.drew (by simpa using h)
section
variable {P : Program} {ops : Array Oper} {rest : List Oper} {o : Oper} {a : Act} {C : World → Prop} {Q : Act → Prop}
/-- wpQuiet, shut: nothing unfolds it -/
structure WQ (P : Program) (ops : Array Oper) (C : World → Prop) (Q : Act → Prop) (l : List Oper) (a : Act) : Prop where
  out : wpQuiet P ops C Q l a
theorem WQ.skip (hw : Region.wanted o (yielded ops a.tmps) = false) (h : WQ P ops C Q rest (a.put o.dst undef)) : WQ P ops C Q (o :: rest) a := ⟨BigFrame.wpQuiet_skip hw h.out⟩
theorem WQ.yields {v : Value} (hy : YieldsIf P ops C o v a) (h : WQ P ops C Q rest (a.put o.dst v)) : WQ P ops C Q (o :: rest) a := ⟨wpQuiet_yields hy h.out⟩
theorem WQ.calls {v : Value} {f : FuncId} {args : Array Value} (hw : Region.wanted o (yielded ops a.tmps) = true) (hx : ∀ w, C w → (execOp a.eval o).run P w = .ok (.enter f args) w) (hc : ∀ w, C w → Calls P f args w fun e w'' => e = .returned v ∧ C w'')
    (h : WQ P ops C Q rest (a.put o.dst v)) : WQ P ops C Q (o :: rest) a := ⟨wpQuiet_calls hw hx hc h.out⟩
theorem WQ.nil (h : Q a) : WQ P ops C Q [] a := ⟨wpQuiet_nil h⟩
end
theorem wp_region_wq {P : Program} {id : Nat} {Q : Exit → Act → World → Prop} {a : Act} {w : World} {l : List Oper} (B : Nat) (W : World) (hw : Below B W w) (hm : P.follows .mixedOrders = true) (hB : Region.lexB .any l.toArray = true)
    (h : WQ P l.toArray (Below B W) (fun a' => ∀ u, Below B W u → Q .normal a' u) l a) : (Code.region id l.toArray true).wp P Q a w := wp_region_bel B W hw hm hB h.out
/-- a goal, shut: the walk stops here -/
structure Pause (p : Prop) : Prop where
  out : p
theorem wpList_pause {P : Program} {ops : Array Oper} {rest : List Oper} {op : Oper} {a : Act} {w : World} {Q : Exit → Act → World → Prop} (ty : TypeId) (x : Operand) (ho : op.op = .load ty x) (p : Addr) (hx : a.eval x = .pointer (some p)) (h : Pause (wpList P ops Q (op :: rest) a w)) : wpList P ops Q (op :: rest) a w := h.out
theorem wp_callv {P : Program} {o : Oper} {a : Act} {w : World} {K : Act → World → Prop} {Q : Exit → Act → World → Prop} {f : FuncId} {args : Array Value} {v : Value} {R : World → Prop} (hx : (execOp a.eval o).run P w = .ok (.enter f args) w) (hc : Calls P f args w fun e w' => e = .returned v ∧ R w') (h : ∀ w', R w' → K (a.put o.dst v) w') : o.wp P a w K Q := by
  unfold Oper.wp
  rw [hx, Oper.upon_enter]
  exact hc.mono fun e w' ⟨he, hr⟩ => by subst he; exact h w' hr
end Go.Proofs.Ytikjelkehcnjmaa
