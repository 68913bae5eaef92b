/- Trip: rows of trips that came in; quiet regions; ended, came, SameTrips. -/
import Derived.Test.YtnooghehmgbemaaGreatB18
import Derived.BigQuiet
namespace Go.Proofs.YtnooghehmgbemaaGreat
open Go.RowKit
set_option linter.unusedVariables false
set_option linter.unusedSimpArgs false

section
variable {P : Program} {ops : Array Oper} {rest : List Oper} {o : Oper} {a : Act} {C : World → Prop} {Q : Act → Prop}
theorem wpQuiet_yields {v : Value} (hy : YieldsIf P ops C o v a) (h : wpQuiet P ops C Q rest (a.put o.dst v)) : wpQuiet P ops C Q (o :: rest) a := by
  rcases hy with ⟨hw, hv⟩ | ⟨hw, rfl⟩
  · refine BigFrame.wpQuiet_want hw fun K hK => ⟨v, fun w hw' => ?_, hK _ h⟩
    unfold Oper.quietAt
    rw [hv w hw']
    exact ⟨rfl, rfl⟩
  · exact BigFrame.wpQuiet_skip hw h
theorem wpQuiet_calls {v : Value} {f : FuncId} {args : Array Value} (hw : Region.wanted o (yielded ops a.tmps) = true) (hx : ∀ w, C w → (execOp a.eval o).run P w = .ok (.enter f args) w) (hc : ∀ w, C w → Calls P f args w fun e w'' => e = .returned v ∧ C w'')
    (h : wpQuiet P ops C Q rest (a.put o.dst v)) : wpQuiet P ops C Q (o :: rest) a := by
  refine BigFrame.wpQuiet_want hw fun K hK => ⟨v, fun w hw' => ?_, hK _ h⟩
  unfold Oper.quietAt
  rw [hx w hw']
  exact ⟨rfl, hc w hw'⟩
end
theorem wp_region_bel {P : Program} {id : Nat} {Q : Exit → Act → World → Prop} {a : Act} {w : World} {l : List Oper} (B : Nat) (W : World) (hw : Below B W w) (hm : P.follows .mixedOrders = true) (hB : Region.lexB .any l.toArray = true)
    (h : wpQuiet P l.toArray (Below B W) (fun a' => ∀ u, Below B W u → Q .normal a' u) l a) : (Code.region id l.toArray true).wp P Q a w :=
  wp_region_quiet (C := Below B W) hm hB hw.drew (by simpa using h)
theorem gives_below {B : Nat} {W z : World} {f : FuncId} {args : Array Value} {v : Value} (hz : Below B W z) (hB : B ≤ W.heap.size) (h : Calls Tryz.prog f args z (Gives v z)) : Calls Tryz.prog f args z fun e w'' => e = .returned v ∧ Below B W w'' :=
  h.mono fun e w' ⟨he, x, hx⟩ => ⟨he, hx ▸ hz.trans (x.h.mono (Nat.le_trans hB hz.size))⟩
theorem range_below {B : Nat} {W z : World} {b o : Nat} {cs : List Value} (h : W.rangeAt b o cs) (hz : Below B W z) (hb : b < B) : z.rangeAt b o cs := fun j v hv => (hz.cell (p := ⟨b, o + j, none⟩) hb).trans (h j v hv)
theorem range_part {W : World} {b o : Nat} {a cs z : List Value} (h : W.rangeAt b o (a ++ cs ++ z)) : W.rangeAt b (o + a.length) cs := fun j v hv => by
  have hj : j < cs.length := (List.getElem?_eq_some_iff.1 hv).1
  have := h (a.length + j) v (by rw [List.append_assoc, List.getElem?_append_right (by omega), Nat.add_sub_cancel_left, List.getElem?_append_left hj]; exact hv)
  rwa [← Nat.add_assoc] at this
/-- slice v holds the trips l -/
def RowT (u : World) (v : Value) (l : List Tr) : Prop :=
  ∃ ao cap, v = .slice ao l.length cap ∧ (l ≠ [] → ∃ g cur, ao = some ⟨g, 0, none⟩ ∧ u.heap[g]? = some (.cells cur 83 (0, 0)) ∧ cur.toList.take (l.length * 23) = (l.map Tr.cells).flatMap id)
section
variable {u z : World} {v : Value} {l : List Tr} {t : Tr}
theorem RowT.nil (u : World) : RowT u (.slice none 0 0) [] := ⟨none, 0, rfl, fun h => (h rfl).elim⟩
theorem RowT.below {B : Nat} (h : RowT u v l) (hb : Below B u z) (hB : u.heap.size ≤ B) : RowT z v l := by
  obtain ⟨ao, cap, e, h⟩ := h
  exact ⟨ao, cap, e, fun hn => by
    obtain ⟨g, cur, e1, h1, h2⟩ := h hn
    exact ⟨g, cur, e1, (hb.block g (Nat.lt_of_lt_of_le (Array.getElem?_eq_some_iff.1 h1).1 hB)).trans h1, h2⟩⟩
theorem RowT.of_own {base : Nat} (h : u.ownsRow base 83 23 v l.length ((l.map Tr.cells).flatMap id)) : RowT u v l := by
  rcases h.2 with ⟨rfl, h0⟩ | ⟨g, cap, cur, rfl, _, h1, _, _, _, h2⟩
  · rw [List.eq_nil_of_length_eq_zero h0]; exact RowT.nil u
  · exact ⟨_, cap, rfl, fun _ => ⟨g, cur, rfl, h1, h2⟩⟩
/-- where trip number i lies, and its parts -/
structure TripIn (u : World) (g i : Nat) (t : Tr) : Prop where
  lt : g < u.heap.size
  all : u.rangeAt g (i * 23) t.cells
  key : u.rangeAt g (i * 23) t.k
  rider : u.rangeAt g (i * 23) t.rider
  driver : u.rangeAt g (i * 23 + 8) t.driver
theorem RowT.get (h : RowT u v l) (ok : ∀ t ∈ l, t.ok) {i : Nat} (hi : l[i]? = some t) : ∃ g cap, v = .slice (some ⟨g, 0, none⟩) l.length cap ∧ TripIn u g i t := by
  obtain ⟨ao, cap, rfl, h⟩ := h
  obtain ⟨g, cur, rfl, h1, h2⟩ := h (fun e => by rw [e] at hi; cases hi)
  have hk := (ok t (List.mem_of_getElem? hi)).k
  have hm : (l.map Tr.cells)[i]? = some t.cells := by rw [List.getElem?_map, hi]; rfl
  have hlt : i < l.length := (List.getElem?_eq_some_iff.1 hi).1
  have ra : u.rangeAt g (i * 23) t.cells := range_of h1 (i * 23) (l.length * 23) (h2.trans (flat_split hm)) (by
    rw [flat_len (m := 23) _ (fun x hx => by obtain ⟨s, hs, rfl⟩ := List.mem_map.1 (List.mem_of_mem_take hx); exact (ok s hs).length), List.length_take, List.length_map, Nat.min_eq_left (Nat.le_of_lt hlt)])
  have e1 : t.cells = [] ++ t.k ++ (.int .u8 t.s :: t.ts.map (.int .i64)) := rfl
  have rk : u.rangeAt g (i * 23) t.k := by rw [e1] at ra; exact range_part ra
  refine ⟨g, cap, rfl, (Array.getElem?_eq_some_iff.1 h1).1, ra, rk, ?_, ?_⟩
  · have : t.k = [] ++ t.rider ++ t.driver := by rw [List.nil_append, Tr.rider, Tr.driver, List.take_append_drop]
    rw [this] at rk; exact range_part rk
  · have : t.k = t.rider ++ t.driver ++ [] := by rw [List.append_nil, Tr.rider, Tr.driver, List.take_append_drop]
    rw [this] at rk
    have h8 : t.rider.length = 8 := (Bs.take (n := 8) (m := 8) hk).1
    have := range_part rk
    rwa [h8] at this
end
theorem TripIn.below {u z : World} {g i : Nat} {t : Tr} (h : TripIn u g i t) {B : Nat} (hz : Below B u z) (hB : u.heap.size ≤ B) : TripIn z g i t :=
  ⟨Nat.lt_of_lt_of_le h.lt hz.size, range_below h.all hz (Nat.lt_of_lt_of_le h.lt hB), range_below h.key hz (Nat.lt_of_lt_of_le h.lt hB), range_below h.rider hz (Nat.lt_of_lt_of_le h.lt hB), range_below h.driver hz (Nat.lt_of_lt_of_le h.lt hB)⟩
theorem Tr.ok.bk {t : Tr} (h : t.ok) : Bs 8 t.rider ∧ Bs 8 t.driver := ⟨Bs.take (m := 8) h.k, Bs.drop (n := 8) h.k⟩
/-- the laws, at a load and at a comparison, for a quiet region -/
theorem y_load {ops : Array Oper} {S : World → Prop} {op : Oper} {a : Act} (hw : Region.wanted op (yielded ops a.tmps) = true) (ty : TypeId) (x : Operand) (ho : op.op = .load ty x) (b o : Nat) (hx : a.eval x = .pointer (some ⟨b, o, none⟩)) (cs : List Value) (d : TypeDesc) (n : Nat) (hS : ∀ w, S w → w.rangeAt b o cs)
    (hu : Tryz.prog.underlying ty = some d) (hd : d.isRow = true) (hi : (Tryz.prog.info? ty).map (·.size) = some n) (hn : cs.length = n) : YieldsIf Tryz.prog ops S op (.agg cs.toArray) a :=
  yieldsIf_load_mid hw ty x ho b o hx cs d hS hu hd (by rw [hn]; exact hi)
theorem y_eq {ops : Array Oper} {S : World → Prop} {op : Oper} {a : Act} (hw : Region.wanted op (yielded ops a.tmps) = true) (ne : Bool) (t s : TypeId) (x y : Operand) (ho : op.op = .binOp (if ne then .neq else .eql) t x y s) (xs ys : Array Value) (v : Value) (hx : a.eval x = .agg xs) (hy : a.eval y = .agg ys) (hm : Tryz.prog.eqGuardType Tryz.prog.depth t = false)
    (hr : ∀ w, (binOp (if ne then .neq else .eql) t (.agg xs) (.agg ys)).run Tryz.prog w = .ok v w) : YieldsIf Tryz.prog ops S op v a :=
  .inl ⟨hw, fun w _ => by
    have hg := run_eqGuard_agg (P := Tryz.prog) (w := w) (if ne then BinOp.neq else .eql) t x y xs ys hm
    unfold execOp
    simp only [ho, hx, hy, Sem.run_bind, Sem.run_pure, hg, hr w, Result.andThen_ok]⟩
theorem eq_ii {x y : List Value} (hx : Bs 8 x) (hy : Bs 8 y) (b : Bool) (h : b = true ↔ x = y) (w : World) : (binOp .eql 57 (.agg x.toArray) (.agg y.toArray)).run Tryz.prog w = .ok (.bool b) w := by
  classical
  have e : b = decide (x = y) := by rw [Bool.eq_iff_iff, h, decide_eq_true_eq]
  rw [e]; exact (eql_ii hx hy w).1
theorem eq_jj {x y : List Value} (hx : Bs 16 x) (hy : Bs 16 y) (b : Bool) (h : b = true ↔ x = y) (w : World) : (binOp .eql 59 (.agg x.toArray) (.agg y.toArray)).run Tryz.prog w = .ok (.bool b) w := by
  classical
  have e : b = decide (x = y) := by rw [Bool.eq_iff_iff, h, decide_eq_true_eq]
  rw [e]; exact (eql_jj hx hy w).1
theorem ne_jj {x y : List Value} (hx : Bs 16 x) (hy : Bs 16 y) (b : Bool) (h : b = false ↔ x = y) (w : World) : (binOp .neq 59 (.agg x.toArray) (.agg y.toArray)).run Tryz.prog w = .ok (.bool b) w := by
  classical
  have e : b = !decide (x = y) := by cases b <;> simp_all
  rw [e]; exact (eql_jj hx hy w).2
theorem eq_tt {x y : Tr} (hx : x.ok) (hy : y.ok) (b : Bool) (h : b = true ↔ x = y) (w : World) : (binOp .eql 83 (.agg x.cells.toArray) (.agg y.cells.toArray)).run Tryz.prog w = .ok (.bool b) w := by
  classical
  have e : b = decide (x = y) := by rw [Bool.eq_iff_iff, h, decide_eq_true_eq]
  rw [e]; exact (eql_tr hx hy w).1
theorem ne_tt {x y : Tr} (hx : x.ok) (hy : y.ok) (b : Bool) (h : b = false ↔ x = y) (w : World) : (binOp .neq 83 (.agg x.cells.toArray) (.agg y.cells.toArray)).run Tryz.prog w = .ok (.bool b) w := by
  classical
  have e : b = !decide (x = y) := by cases b <;> simp_all
  rw [e]; exact (eql_tr hx hy w).2
/-! ### ended -/
def Tr.endB (t : Tr) : Bool := t.s == 4 || t.s == 5
theorem endB_on {t : Tr} : t.endB = false ↔ t.on := by unfold Tr.endB Tr.on; simp
theorem cell_s {u : World} {b : Nat} {t : Tr} (ht : t.ok) {ty : TypeId} {fr : Nat × Nat} (hb : u.heap[b]? = some (.cells t.cells.toArray ty fr)) : u.cell? ⟨b, 16, none⟩ = some (.int .u8 t.s) := by
  rw [cell_of_row u b 16 _ _ _ hb, List.getElem?_toArray, Tr.cells, List.getElem?_append_right (by rw [ht.k.1]; omega), ht.k.1]; rfl
end Go.Proofs.YtnooghehmgbemaaGreat
