/- Top, base: laws at single operations, for regions that draw their order; copy; make; blocks chosen out of a list. -/
import Derived.Test.YtikjelkehcnjmaaW12
import Derived.Laws.CopyOwn
import Derived.Great.BuildSlice
namespace Go.Proofs.Ytikjelkehcnjmaa
open Go.RowKit
set_option linter.unusedVariables false
set_option linter.unusedSimpArgs false
section
variable {P : Program} {ops : Array Oper} {rest : List Oper} {o : Oper} {a : Act} {w w0 : World} {K : Act → World → Prop} {Q : Exit → Act → World → Prop} {bs : List (Nat × Obj)}
theorem wp_newM (t : TypeId) (ho : o.op = .alloc t) (z : Array Value) (n : Nat) (hz : (P.info? t).map (fun i => (i.zero, i.size)) = some (some (.agg z), n)) (S : Mem w0 w bs)
    (h : ∀ (w' : World) (b : Nat), Mem w0 w' (bs ++ [(b, .cells z t (0, 0))]) → K (a.put o.dst (.pointer (some ⟨b, 0, none⟩))) w') : o.wp P a w K Q :=
  wp_allocz t ho z n hz (h _ _ (S.alloc _))
theorem wp_putrowM (ty : TypeId) (x y : Operand) (ho : o.op = .store ty x y) (b : Nat) (hx : a.eval x = .pointer (some ⟨b, 0, none⟩)) (c' : Array Value) (hy : a.eval y = .agg c')
    (S : Mem w0 w bs) (i : Nat) {cs : Array Value} (hi : bs[i]? = some (b, .cells cs ty (0, 0))) (hsz : (P.info? ty).map (·.size) = some c'.size) (hc : cs.size = c'.size) (h1 : c'.all (·.oneCell') = true)
    (h : ∀ w', Mem w0 w' (bs.set i (b, .cells c' ty (0, 0))) → K (a.put o.dst undef) w') : o.wp P a w K Q :=
  wp_storerow ty x y ho b hx cs c' hy (S.at i hi) hsz hc h1 (h _ (S.set i hi _))
theorem wp_putM (ty : TypeId) (x y : Operand) (ho : o.op = .store ty x y) (b off : Nat) (hx : a.eval x = .pointer (some ⟨b, off, none⟩)) (v : Value) (hy : a.eval y = v)
    (S : Mem w0 w bs) (i : Nat) {cs : Array Value} {t : TypeId} (hi : bs[i]? = some (b, .cells cs t (0, 0))) (hof : off < cs.size) (hsz : (P.info? ty).map (·.size) = some 1) (hv : v.cells = #[v]) (h1 : v.oneCell' = true) (c' : Array Value) (hc : cs.setIfInBounds off v = c')
    (h : ∀ w', Mem w0 w' (bs.set i (b, .cells c' t (0, 0))) → K (a.put o.dst undef) w') : o.wp P a w K Q := by
  subst hc
  exact wp_store1 ty x y ho b off hx v hy (S.at i hi) hof hsz hv h1 (h _ (S.set i hi _))
theorem made_int (n : Nat) : madeCells #[Value.int .i64 0] n = iarr n fun _ => 0 := by
  apply Array.ext'
  rw [toList_madeCells_one]
  apply List.ext_getElem?
  intro j
  by_cases e : j < n
  · have := arr_get (n := n) (fun i => Value.int .i64 0) e
    rw [show (iarr n fun _ => 0).toList[j]? = (iarr n fun _ => 0)[j]? from by simp, show (iarr n fun _ => 0)[j]? = some (.int .i64 0) from this]
    simp [e]
  · rw [show (iarr n fun _ => 0).toList[j]? = (iarr n fun _ => 0)[j]? from by simp, show (iarr n fun _ => 0)[j]? = none from Array.getElem?_eq_none (by rw [iarr_size]; omega)]
    simp; omega
theorem wp_makeM (t e : TypeId) (l c : Operand) (ho : o.op = .makeSlice t l c) (i : TypeInfo) (n : Nat) (hl : a.eval l = .int .i64 n) (hc : a.eval c = .int .i64 n) (ht : P.underlying t = some (.slice e)) (hi : P.info? e = some i) (hz : i.zero = some (.int .i64 0)) (hsize : i.size = 1) (hby : i.bytes = 8) (hn : n ≤ 1048576)
    (S : Mem w0 w bs) (h : ∀ (w' : World) (b : Nat), Mem w0 w' (bs ++ [(b, .cells (iarr n fun _ => 0) e (0, 0))]) → K (a.put o.dst (.slice (some ⟨b, 0, none⟩) n n)) w') : o.wp P a w K Q := by
  have hr := run_make (P := P) w t e i (.int .i64 0) ht hi hz .i64 .i64 n n (by omega) (Int.le_refl _) (by rw [hby]; omega) (by omega)
  rw [hsize, Nat.mul_one, Int.toNat_natCast] at hr
  have e1 : (Value.int .i64 0).cells = #[.int .i64 0] := rfl
  rw [e1, made_int] at hr
  unfold Oper.wp execOp
  simp only [ho, hl, hc, Sem.run_bind, Sem.run_pure, hr, Result.andThen_ok]
  exact h _ _ (S.alloc _)
theorem run_load1 {ty : TypeId} {d : TypeDesc} (hu : P.underlying ty = some d) (hd : d.isRow = false) {p : Addr} {v : Value} (hc : w.cell? p = some v) : (loadVar ty p).run P w = .ok v w := by
  cases d <;> first | (cases hd; done) | simp [loadVar, isAgg, run_underlying hu, hc, go_sem]
theorem wp_loadcell (ty : TypeId) (x : Operand) (ho : o.op = .load ty x) (b off : Nat) (hx : a.eval x = .pointer (some ⟨b, off, none⟩)) (v : Value) (hc : w.cell? ⟨b, off, none⟩ = some v) (hr : (loadVar ty ⟨b, off, none⟩).run P w = .ok v w) (h : K (a.put o.dst v) w) : o.wp P a w K Q := by
  unfold Oper.wp execOp
  simp only [ho, hx, Instr.loadAt, Instr.sureAddr, Sem.run_bind, Sem.run_pure, Result.andThen_ok, hr]
  exact h
theorem wpList_copyM (hgd : o.guard = none) (d s : Operand) (dT sT e : TypeId) (ho : o.op = .call { callee := .builtin .copy, args := #[d, s], argTypes := #[dT, sT] }) (hu : P.underlying dT = some (.slice e)) (hsz : (P.info? e).map (·.size) = some 1)
    (n N g b : Nat) (F G : Nat → Int) (hn : n ≤ N) (hd : a.eval d = .slice (some ⟨g, 0, none⟩) n n) (hs : a.eval s = .slice (some ⟨b, 0, none⟩) N N) (S : Mem w0 w bs) (i j : Nat) {t : TypeId} (hi : bs[i]? = some (g, .cells (iarr n F) e (0, 0))) (hj : bs[j]? = some (b, .cells (iarr N G) t (0, 0)))
    (h : ∀ w', Mem w0 w' (bs.set i (g, .cells (iarr n G) e (0, 0))) → wpList P ops Q rest (a.put o.dst (goInt n)) w') : wpList P ops Q (o :: rest) a w := by
  have hl : (iarr n G).toList.length = n := by simp [iarr_size]
  refine wpList_copy_own hgd d s dT sT ho e hu hsz g 0 n n ⟨b, 0, none⟩ N N hd hs (iarr n F) e (S.at i hi) (iarr n G).toList (by rw [hl]; exact (Nat.min_eq_right hn).symm) (fun k v hk => ?_) (by rw [hl, iarr_size]; omega) (fun v hv => ?_) ?_
  · have hadd : (⟨b, 0, none⟩ : Addr).add k = ⟨b, k, none⟩ := by unfold Addr.add; split <;> simp_all
    rw [hadd]
    have hk2 : k < n := by have := (List.getElem?_eq_some_iff.1 hk).1; rw [hl] at this; exact this
    have e1 : (iarr n G).toList[k]? = some (.int .i64 (G k)) := by
      have := arr_get (n := n) (fun i => Value.int .i64 (G i)) hk2
      simpa [iarr] using this
    rw [e1] at hk
    injection hk with hk
    rw [← hk]
    exact S.icell j hj (by omega)
  · have h2 := Array.all_eq_true'.1 (iarr_one n G)
    exact h2 v (by simpa using hv)
  · have e2 : ((iarr n F).toList.take 0 ++ ((iarr n G).toList ++ (iarr n F).toList.drop (0 + (iarr n G).toList.length))).toArray = iarr n G := by
      rw [hl, List.drop_eq_nil_of_le (by simp [iarr_size])]; simp
    rw [e2, hl]
    exact h _ (S.set i hi _)
/-- a slice literal of one element -/
theorem wp_lit1 (t e : TypeId) (x : Operand) (ho : o.op = .buildSlice t 1 #[(0, x)]) (v : Value) (hx : a.eval x = v) (cells : Array Value) (ie : TypeInfo) (z : Value) (size : Nat) (hu : P.underlying t = some (.slice e)) (hie : P.info? e = some ie) (hz : ie.zero = some z) (hs : ie.size = size) (h0 : 0 < size) (hb : size ≤ 1024)
    (hf : Instr.fill (fun i => some (i * size, size)) ((Array.range (1 * size)).map (z.cells[· % z.cells.size]!)) [(0, v)] = some cells)
    (h : K (a.put o.dst (.slice (some ⟨w.heap.size, 0, none⟩) 1 1)) (w.alloc (.cells cells e))) : o.wp P a w K Q := by
  subst hs hx
  exact wp_buildSlice t e 1 #[(0, x)] ho cells ie z hu hie hz (by omega) (by omega) (by simpa using hf) h
theorem Mem.sel {w0 w : World} {bs : List (Nat × Obj)} (S : Mem w0 w bs) (idx : List Nat) (hn : idx.Nodup) : Mem w0 w (idx.filterMap fun i => bs[i]?) := by
  have key : ∀ (j b : Nat) (q : Obj), (idx.filterMap fun i => bs[i]?)[j]? = some (b, q) → ∃ i, bs[i]? = some (b, q) := fun j b q h => by
    obtain ⟨i, _, hi⟩ := List.mem_filterMap.1 (List.mem_of_getElem? h)
    exact ⟨i, hi⟩
  have pw : (idx.filterMap fun i => bs[i]?).Pairwise fun x y => x.1 ≠ y.1 := by
    rw [List.pairwise_filterMap]
    refine List.Pairwise.imp ?_ hn
    intro i j hij x hx y hy e
    obtain ⟨b, q⟩ := x
    obtain ⟨b', q'⟩ := y
    simp only at e
    subst e
    exact hij (S.nd i j b q q' hx hy)
  refine ⟨S.below, fun j b q h => ?_, fun j b q h => ?_, fun j j' b q q' h h' => ?_⟩
  · obtain ⟨i, hi⟩ := key j b q h; exact S.hb i b q hi
  · obtain ⟨i, hi⟩ := key j b q h; exact S.new i b q hi
  · rw [List.pairwise_iff_getElem] at pw
    obtain ⟨l1, e1⟩ := List.getElem?_eq_some_iff.1 h
    obtain ⟨l2, e2⟩ := List.getElem?_eq_some_iff.1 h'
    refine Classical.byContradiction fun ne => ?_
    by_cases lt : j < j'
    · exact pw j j' l1 l2 lt (by rw [e1, e2])
    · exact pw j' j l2 l1 (by omega) (by rw [e1, e2])
end
structure Pr where
  r : Int
  c : Int
def Pr.cells (p : Pr) : List Value := [.int .i64 p.r, .int .i64 p.c]
def pl (f : Nat → Option Nat) (m : Nat) : List Pr := (List.range m).filterMap fun r => (f r).map fun c => ⟨r, c⟩
theorem pl_none {f : Nat → Option Nat} {r : Nat} (h : f r = none) : pl f (r + 1) = pl f r := by unfold pl; rw [List.range_succ, List.filterMap_append]; simp [h]
theorem pl_some {f : Nat → Option Nat} {r c : Nat} (h : f r = some c) : pl f (r + 1) = pl f r ++ [⟨r, c⟩] := by unfold pl; rw [List.range_succ, List.filterMap_append]; simp [h]
theorem pl_len (f : Nat → Option Nat) (m : Nat) : (pl f m).length ≤ m := by
  have := List.length_filterMap_le (fun r => (f r).map fun c => (⟨r, c⟩ : Pr)) (List.range m)
  simpa [pl] using this
theorem zero28 : (Try.prog.info? 28).map (fun i => (i.zero, i.size)) = some (some (.agg #[.slice none 0 0, .slice none 0 0, .slice none 0 0]), 3) := by kernel_rfl
theorem size28 : (Try.prog.info? 28).map (·.size) = some 3 := by kernel_rfl
theorem size25 : (Try.prog.info? 25).map (·.size) = some 1 := by kernel_rfl
theorem size26 : (Try.prog.info? 26).map (·.size) = some 1 := by kernel_rfl
theorem size22 : (Try.prog.info? 22).map (·.size) = some 1 := by kernel_rfl
theorem info50 : (Try.prog.info? 50).map (fun i => (i.zero, i.size, i.bytes)) = some (some (.agg #[.int .i64 0, .int .i64 0]), 2, 16) := by kernel_rfl
def cv (A1 : Option Addr) (n1 c1 : Nat) (A2 : Option Addr) (n2 c2 : Nat) (A3 : Option Addr) (n3 c3 : Nat) : Array Value := #[.slice A1 n1 c1, .slice A2 n2 c2, .slice A3 n3 c3]
theorem built28n : Try.prog.built 28 [] = some (cv none 0 0 none 0 0 none 0 0) := by kernel_rfl
end Go.Proofs.Ytikjelkehcnjmaa
