/- Top, base: blocks made and written over whole; slices that came in. -/
import Derived.Test.YtikjelkehcnjmaaW4
import Derived.Test.YtikjelkehcnjmaaM9
import Derived.Deep.DeepCutAuto
import Derived.Deep.CutBlock
namespace Go.Proofs.Ytikjelkehcnjmaa
open Go.RowKit
set_option linter.unusedVariables false
set_option linter.unusedSimpArgs false
section
variable {P : Program} {ops : Array Oper} {rest : List Oper} {o : Oper} {a : Act} {w w0 : World} {Q : Exit → Act → World → Prop} {bs : List (Nat × Obj)}
theorem wpList_new (hgd : o.guard = none) (t : TypeId) (ho : o.op = .alloc t) (z : Array Value) (n : Nat) (hz : (P.info? t).map (fun i => (i.zero, i.size)) = some (some (.agg z), n)) (S : Mem w0 w bs)
    (h : ∀ (w' : World) (b : Nat), Mem w0 w' (bs ++ [(b, .cells z t (0, 0))]) → wpList P ops Q rest (a.put o.dst (.pointer (some ⟨b, 0, none⟩))) w') : wpList P ops Q (o :: rest) a w :=
  wpList_allocz hgd t ho z n hz (h _ _ (S.alloc _))
theorem run_new1 {t : TypeId} {v : Value} {n : Nat} (hz : (P.info? t).map (fun i => (i.zero, i.size)) = some (some v, n)) (hv : v.cells = #[v]) : (Instr.alloc t true (.tuple #[])).run P w = .ok (.pointer (some ⟨w.heap.size, 0, none⟩)) (w.alloc (.cells #[v] t)) := by
  have h1 := (zero_of_info hz).1 w
  have e : (newVar t v).run P w = .ok ⟨w.heap.size, 0, none⟩ (w.alloc (.cells #[v] t)) := by
    simp [newVar, hv, go_sem]
    show w.alloc (.cells v.cells t) = _
    rw [hv]
  simp only [Instr.alloc, Sem.run_bind, h1, Result.andThen_ok, e, Sem.run_pure]
theorem wpList_new1 (hgd : o.guard = none) (t : TypeId) (ho : o.op = .alloc t) (v : Value) (n : Nat) (hz : (P.info? t).map (fun i => (i.zero, i.size)) = some (some v, n)) (hv : v.cells = #[v]) (S : Mem w0 w bs)
    (h : ∀ (w' : World) (b : Nat), Mem w0 w' (bs ++ [(b, .cells #[v] t (0, 0))]) → wpList P ops Q rest (a.put o.dst (.pointer (some ⟨b, 0, none⟩))) w') : wpList P ops Q (o :: rest) a w := by
  refine wpList_plain hgd fun _ hK => ?_
  unfold Oper.wp execOp
  simp only [ho, Sem.run_bind, Sem.run_pure, run_new1 hz hv, Result.andThen_ok]
  exact hK _ _ (h _ _ (S.alloc _))
theorem wpList_boxnew (hgd : o.guard = none) (t : TypeId) (x : Operand) (ho : o.op = .box t x) (v : Value) (hx : a.eval x = v) (cs : Array Value) (hv : v.cells = cs) (S : Mem w0 w bs)
    (h : ∀ (w' : World) (b : Nat), Mem w0 w' (bs ++ [(b, .cells cs t (0, 0))]) → wpList P ops Q rest (a.put o.dst (.pointer (some ⟨b, 0, none⟩))) w') : wpList P ops Q (o :: rest) a w := by
  refine wpList_plain hgd fun _ hK => ?_
  have e : (newVar t v).run P w = .ok ⟨w.heap.size, 0, none⟩ (w.alloc (.cells cs t)) := by
    simp [newVar, hv, go_sem]
    show w.alloc (.cells v.cells t) = _
    rw [hv]
  unfold Oper.wp execOp
  simp only [ho, hx, Instr.box, Sem.run_bind, Sem.run_pure, e, Result.andThen_ok]
  exact hK _ _ (h _ _ (S.alloc _))
theorem wpList_build2 (hw : Region.wanted o (yielded ops a.tmps) = true) (t : TypeId) (ps : List (Nat × Operand)) (ho : o.op = .build t ps.toArray) (l : List (Nat × Value)) (hp : ps.map (fun p => (p.1, a.eval p.2)) = l) (cs : Array Value) (hb : P.built t l = some cs)
    (h : wpList P ops Q rest (a.put o.dst (.agg cs)) w) : wpList P ops Q (o :: rest) a w := by
  refine wpList_w hw fun _ hK => ?_
  have e : (ps.toArray.map fun (i, x) => (i, a.eval x)).toList = l := by
    rw [← hp]; simp
  have e2 := run_build (P := P) w t (ps.toArray.map fun (i, x) => (i, a.eval x)) cs (by rw [e]; exact hb)
  unfold Oper.wp execOp
  simp only [ho, Sem.run_bind, Sem.run_pure, e2, Result.andThen_ok]
  exact hK _ _ h
theorem wpList_putrow (hgd : o.guard = none) (ty : TypeId) (x y : Operand) (ho : o.op = .store ty x y) (b : Nat) (hx : a.eval x = .pointer (some ⟨b, 0, none⟩)) (c' : Array Value) (hy : a.eval y = .agg c')
    (S : Mem w0 w bs) (i : Nat) {cs : Array Value} (hi : bs[i]? = some (b, .cells cs ty (0, 0))) (hsz : (P.info? ty).map (·.size) = some c'.size) (hc : cs.size = c'.size) (h1 : c'.all (·.oneCell') = true)
    (h : ∀ w', Mem w0 w' (bs.set i (b, .cells c' ty (0, 0))) → wpList P ops Q rest (a.put o.dst undef) w') : wpList P ops Q (o :: rest) a w :=
  wpList_storerow hgd ty x y ho b hx cs c' hy (S.at i hi) hsz hc h1 (h _ (S.set i hi _))
theorem wpList_getrow (hgd : o.guard = none) (ty : TypeId) (x : Operand) (ho : o.op = .load ty x) (b : Nat) (hx : a.eval x = .pointer (some ⟨b, 0, none⟩)) (S : Mem w0 w bs) (i : Nat) {cs : Array Value} {t : TypeId} (hi : bs[i]? = some (b, .cells cs t (0, 0))) (d : TypeDesc)
    (hu : P.underlying ty = some d) (hd : d.isRow = true) (hsz : (P.info? ty).map (·.size) = some cs.size) (h : wpList P ops Q rest (a.put o.dst (.agg cs)) w) : wpList P ops Q (o :: rest) a w :=
  wpList_loadrow hgd ty x ho b hx cs t d (S.at i hi) hu hd hsz h
end
theorem Mem.cell {w0 w : World} {bs : List (Nat × Obj)} (h : Mem w0 w bs) (i : Nat) {b : Nat} {cs : Array Value} {t : TypeId} (hi : bs[i]? = some (b, .cells cs t (0, 0))) {j : Nat} {v : Value} (hj : cs[j]? = some v) : w.cell? ⟨b, j, none⟩ = some v := by
  rw [cell_of_row w b j _ _ _ (h.at i hi)]; exact hj
theorem Mem.lt {w0 w : World} {bs : List (Nat × Obj)} (h : Mem w0 w bs) (i : Nat) {b : Nat} {o : Obj} (hi : bs[i]? = some (b, o)) : b < w.heap.size := (Array.getElem?_eq_some_iff.1 (h.at i hi)).1
/-- a slice that reads as a list of rows -/
structure Rd {α : Type} (cells : α → List Value) (size : Nat) (w : World) (B : Nat) (A : Option Addr) (n : Nat) (xs : List α) : Prop where
  len : xs.length = n
  at_ : 0 < n → ∃ b off, A = some ⟨b, off, none⟩ ∧ b < B ∧ ∀ (i : Nat) (x : α), xs[i]? = some x → ∀ (j : Nat) (v : Value), (cells x)[j]? = some v → w.cell? ⟨b, off + i * size + j, none⟩ = some v
section
variable {α : Type} {cells : α → List Value} {size : Nat} {w w' : World} {B n : Nat} {A : Option Addr} {xs : List α}
theorem Rd.below (h : Rd cells size w B A n xs) (hb : Below B w w') : Rd cells size w' B A n xs :=
  ⟨h.len, fun hn => by obtain ⟨b, off, e, hl, hc⟩ := h.at_ hn; exact ⟨b, off, e, hl, fun i x hx j v hv => (hb.cell (p := ⟨b, off + i * size + j, none⟩) hl).trans (hc i x hx j v hv)⟩⟩
theorem Rd.up (h : Rd cells size w B A n xs) {B' : Nat} (hB : B ≤ B') : Rd cells size w B' A n xs :=
  ⟨h.len, fun hn => by obtain ⟨b, off, e, hl, hc⟩ := h.at_ hn; exact ⟨b, off, e, Nat.lt_of_lt_of_le hl hB, hc⟩⟩
theorem Rd.row (h : Rd cells size w B A n xs) {i : Nat} {x : α} (hx : xs[i]? = some x) : ∃ b off, A = some ⟨b, off, none⟩ ∧ b < B ∧ w.rangeAt b (off + i * size) (cells x) := by
  have hi : i < n := by rw [← h.len]; exact (List.getElem?_eq_some_iff.1 hx).1
  obtain ⟨b, off, e, hl, hc⟩ := h.at_ (by omega)
  exact ⟨b, off, e, hl, fun j v hv => hc i x hx j v hv⟩
end
def Ed.cells (x : Ed) : List Value := [.int .i64 x.r, .int .i64 x.c, .int .i64 x.w]
theorem Ed.one (x : Ed) : x.cells.toArray.all (·.oneCell') = true := by
  rw [List.all_toArray]; rfl
theorem ed_get {xs : List Ed} {i : Nat} (h : i < xs.length) : xs[i]? = some (ed xs i) := by
  unfold ed; rw [List.getElem?_eq_getElem h]; rfl
theorem zero52 : (Try.prog.info? 52).map (fun i => (i.zero, i.size)) = some (some (.agg #[.int .i64 0, .int .i64 0, .int .i64 0]), 3) := by kernel_rfl
theorem size52 : (Try.prog.info? 52).map (·.size) = some 3 := by kernel_rfl
theorem size24 : (Try.prog.info? 24).map (·.size) = some 3 := by kernel_rfl
/-- a graph, as it is handed on -/
def gv (rows cols : Int) (A : Option Addr) (n c : Nat) : Array Value := #[.int .i64 rows, .int .i64 cols, .slice A n c]
end Go.Proofs.Ytikjelkehcnjmaa
