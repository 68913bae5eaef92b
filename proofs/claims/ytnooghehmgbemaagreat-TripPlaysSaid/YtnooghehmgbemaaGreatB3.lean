/- Trip, base: laws at the operations for whole rows and maps. -/
import Derived.Test.YtnooghehmgbemaaGreatB2
import Derived.OrdersHeld
import Derived.Deep.RegionHeld
namespace Go.Proofs.YtnooghehmgbemaaGreat
open Go.RowKit
set_option linter.unusedVariables false

section
variable {P : Program} {ops : Array Oper} {rest : List Oper} {op : Oper} {a : Act} {w : World} {K : Act → World → Prop} {Q : Exit → Act → World → Prop} {S : World → Prop}
theorem yields_lookup (hw : Region.wanted op (yielded ops a.tmps) = true) (T : TypeId) (m x : Operand) (ok : Bool) (ho : op.op = .lookup T m x ok) (mv kv v : Value) (hm : a.eval m = mv) (hx : a.eval x = kv)
    (hrun : ∀ u, S u → (Instr.lookup T mv kv ok).run P u = .ok v u) : YieldsIf P ops S op v a :=
  .inl ⟨hw, fun u hu => by unfold execOp; simp only [ho, hm, hx, Sem.run_bind, Sem.run_pure, hrun u hu, Result.andThen_ok]⟩
theorem yields_loadrow (hw : Region.wanted op (yielded ops a.tmps) = true) (ty : TypeId) (x : Operand) (ho : op.op = .load ty x) (b : Nat) (hx : a.eval x = .pointer (some ⟨b, 0, none⟩)) (cs : Array Value) (t : TypeId) (d : TypeDesc)
    (hS : ∀ u, S u → u.heap[b]? = some (.cells cs t (0, 0))) (hu : P.underlying ty = some d) (hd : d.isRow = true) (hi : (P.info? ty).map (·.size) = some cs.size) : YieldsIf P ops S op (.agg cs) a :=
  .inl ⟨hw, fun u hu' => by
    have h := run_loadVar_row (P := P) u b t ty cs (0, 0) d (hS u hu') hu (by cases d <;> first | rfl | cases hd) hi
    unfold execOp
    simp only [ho, hx, Instr.loadAt, Instr.sureAddr, Sem.run_bind, Sem.run_pure, Result.andThen_ok, h]⟩
theorem wp_loadrow (ty : TypeId) (x : Operand) (ho : op.op = .load ty x) (b : Nat) (hx : a.eval x = .pointer (some ⟨b, 0, none⟩)) (cs : Array Value) (t : TypeId) (d : TypeDesc)
    (hS : w.heap[b]? = some (.cells cs t (0, 0))) (hu : P.underlying ty = some d) (hd : d.isRow = true) (hi : (P.info? ty).map (·.size) = some cs.size) (h : K (a.put op.dst (.agg cs)) w) : op.wp P a w K Q := by
  have h1 := run_loadVar_row (P := P) w b t ty cs (0, 0) d hS hu (by cases d <;> first | rfl | cases hd) hi
  unfold Oper.wp execOp
  simp only [ho, hx, Instr.loadAt, Instr.sureAddr, Sem.run_bind, Sem.run_pure, Result.andThen_ok, h1]
  exact h
theorem wpList_loadrow (hgd : op.guard = none) (ty : TypeId) (x : Operand) (ho : op.op = .load ty x) (b : Nat) (hx : a.eval x = .pointer (some ⟨b, 0, none⟩)) (cs : Array Value) (t : TypeId) (d : TypeDesc)
    (hS : w.heap[b]? = some (.cells cs t (0, 0))) (hu : P.underlying ty = some d) (hd : d.isRow = true) (hi : (P.info? ty).map (·.size) = some cs.size) (h : wpList P ops Q rest (a.put op.dst (.agg cs)) w) : wpList P ops Q (op :: rest) a w :=
  wpList_plain hgd fun _ hK => wp_loadrow ty x ho b hx cs t d hS hu hd hi (hK _ _ h)
theorem wp_storerow (ty : TypeId) (x y : Operand) (ho : op.op = .store ty x y) (b : Nat) (hx : a.eval x = .pointer (some ⟨b, 0, none⟩)) (cs c' : Array Value) (hy : a.eval y = .agg c')
    (hS : w.heap[b]? = some (.cells cs ty (0, 0))) (hi : (P.info? ty).map (·.size) = some c'.size) (hc : cs.size = c'.size) (h1 : c'.all (·.oneCell') = true) (h : K (a.put op.dst undef) (w.setRow b c')) : op.wp P a w K Q := by
  have h2 := run_storeVar_row (P := P) w b ty ty cs c' hS hi hc h1
  unfold Oper.wp execOp
  simp only [ho, hx, hy, Instr.storeAt, Instr.sureAddr, Sem.run_bind, Sem.run_pure, Result.andThen_ok, h2]
  exact h
theorem wpList_storerow (hgd : op.guard = none) (ty : TypeId) (x y : Operand) (ho : op.op = .store ty x y) (b : Nat) (hx : a.eval x = .pointer (some ⟨b, 0, none⟩)) (cs c' : Array Value) (hy : a.eval y = .agg c')
    (hS : w.heap[b]? = some (.cells cs ty (0, 0))) (hi : (P.info? ty).map (·.size) = some c'.size) (hc : cs.size = c'.size) (h1 : c'.all (·.oneCell') = true) (h : wpList P ops Q rest (a.put op.dst undef) (w.setRow b c')) : wpList P ops Q (op :: rest) a w :=
  wpList_plain hgd fun _ hK => wp_storerow ty x y ho b hx cs c' hy hS hi hc h1 (hK _ _ h)
theorem wp_allocz (t : TypeId) (ho : op.op = .alloc t) (z : Array Value) (n : Nat) (hz : (P.info? t).map (fun i => (i.zero, i.size)) = some (some (.agg z), n)) (h : K (a.put op.dst (.pointer (some ⟨w.heap.size, 0, none⟩))) (w.alloc (.cells z t))) : op.wp P a w K Q := by
  have h1 := (zero_of_info hz).1 w
  unfold Oper.wp execOp
  simp only [ho, Instr.alloc, Sem.run_bind, Sem.run_pure, h1, Result.andThen_ok]
  have e : (newVar t (.agg z)).run P w = .ok ⟨w.heap.size, 0, none⟩ (w.alloc (.cells z t)) := by
    simp [newVar, Value.cells, go_sem]
  simp only [e, Result.andThen_ok]
  exact h
theorem wpList_allocz (hgd : op.guard = none) (t : TypeId) (ho : op.op = .alloc t) (z : Array Value) (n : Nat) (hz : (P.info? t).map (fun i => (i.zero, i.size)) = some (some (.agg z), n)) (h : wpList P ops Q rest (a.put op.dst (.pointer (some ⟨w.heap.size, 0, none⟩))) (w.alloc (.cells z t))) : wpList P ops Q (op :: rest) a w :=
  wpList_plain hgd fun _ hK => wp_allocz t ho z n hz (hK _ _ h)
theorem wpList_build (hgd : op.guard = none) (t : TypeId) (ho : op.op = .build t #[]) (z : Value) (hb : ∀ u : World, (Instr.build t #[]).run P u = .ok z u) (h : wpList P ops Q rest (a.put op.dst z) w) : wpList P ops Q (op :: rest) a w := by
  refine wpList_plain hgd fun _ hK => ?_
  unfold Oper.wp execOp
  simp only [ho, List.map_toArray, List.map_nil, Sem.run_bind, Sem.run_pure, hb w, Result.andThen_ok]
  exact hK _ _ h
theorem wpList_index (hgd : op.guard = none) (t : TypeId) (x y : Operand) (ho : op.op = .index t x y) (xv yv v : Value) (hx : a.eval x = xv) (hy : a.eval y = yv) (hb : ∀ u : World, (Instr.index t xv yv).run P u = .ok v u) (h : wpList P ops Q rest (a.put op.dst v) w) : wpList P ops Q (op :: rest) a w := by
  refine wpList_plain hgd fun _ hK => ?_
  unfold Oper.wp execOp
  simp only [ho, hx, hy, Sem.run_bind, Sem.run_pure, hb w, Result.andThen_ok]
  exact hK _ _ h
end
def Z25 : Array Value := #[.int .u8 0, .int .u8 0, .int .u8 0, .int .u8 0, .int .u8 0, .int .u8 0, .int .u8 0, .int .u8 0, .int .u8 0, .int .u8 0, .int .u8 0, .int .u8 0, .int .u8 0, .int .u8 0, .int .u8 0, .int .u8 0]
def Z40 : Array Value := #[.int .u8 0, .int .u8 0, .int .u8 0, .int .u8 0, .int .u8 0, .int .u8 0, .int .u8 0, .int .u8 0, .int .u8 0, .int .u8 0, .int .u8 0, .int .u8 0, .int .u8 0, .int .u8 0, .int .u8 0, .int .u8 0, .int .u8 0, .int .i64 0, .int .i64 0, .int .i64 0, .int .i64 0, .int .i64 0, .int .i64 0]
theorem zero25 : (Tryz.prog.info? 59).map (fun i => (i.zero, i.size)) = some (some (.agg Z25), 16) := by kernel_rfl
theorem zero40 : (Tryz.prog.info? 83).map (fun i => (i.zero, i.size)) = some (some (.agg Z40), 23) := by kernel_rfl
theorem size25 : (Tryz.prog.info? 59).map (·.size) = some 16 := by kernel_rfl
theorem size40 : (Tryz.prog.info? 83).map (·.size) = some 23 := by kernel_rfl
theorem size23 : (Tryz.prog.info? 57).map (·.size) = some 8 := by kernel_rfl
theorem z25s : Z25.size = 16 := rfl
theorem z40s : Z40.size = 23 := rfl
theorem z25o : Z25.all (·.oneCell') = true := by kernel_rfl
theorem z40o : Z40.all (·.oneCell') = true := by kernel_rfl
theorem build40 (w : World) : (Instr.build 83 #[]).run Tryz.prog w = .ok (.agg Z40) w := by kernel_rfl
end Go.Proofs.YtnooghehmgbemaaGreat
