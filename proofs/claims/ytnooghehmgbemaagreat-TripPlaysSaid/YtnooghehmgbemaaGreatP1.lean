/- TripPlays: the reference, small functions. -/
import Derived.Test.YtnooghehmgbemaaGreatB21
namespace Go.Proofs.YtnooghehmgbemaaGreat
open Go.RowKit
set_option linter.unusedVariables false
set_option linter.unusedSimpArgs false

section
variable {P : Program} {ops : Array Oper} {rest : List Oper} {o : Oper} {a : Act} {C : World → Prop} {Q : Act → Prop}
/-- wpQuiet, shut: nothing unfolds it -/
structure WQ (P : Program) (ops : Array Oper) (C : World → Prop) (Q : Act → Prop) (l : List Oper) (a : Act) : Prop where
  out : wpQuiet P ops C Q l a
theorem WQ.skip (hw : Region.wanted o (yielded ops a.tmps) = false) (h : WQ P ops C Q rest (a.put o.dst undef)) : WQ P ops C Q (o :: rest) a := ⟨BigFrame.wpQuiet_skip hw h.out⟩
theorem WQ.yields {v : Value} (hy : YieldsIf P ops C o v a) (h : WQ P ops C Q rest (a.put o.dst v)) : WQ P ops C Q (o :: rest) a := ⟨wpQuiet_yields hy h.out⟩
theorem WQ.calls {v : Value} {f : FuncId} {args : Array Value} (hw : Region.wanted o (yielded ops a.tmps) = true) (hx : ∀ w, C w → (execOp a.eval o).run P w = .ok (.enter f args) w) (hc : ∀ w, C w → Calls P f args w fun e w'' => e = .returned v ∧ C w'')
    (h : WQ P ops C Q rest (a.put o.dst v)) : WQ P ops C Q (o :: rest) a := ⟨wpQuiet_calls hw hx hc h.out⟩
theorem WQ.nil (h : Q a) : WQ P ops C Q [] a := ⟨wpQuiet_nil h⟩
end
theorem wp_region_wq {P : Program} {id : Nat} {Q : Exit → Act → World → Prop} {a : Act} {w : World} {l : List Oper} (B : Nat) (W : World) (hw : Below B W w) (hm : P.follows .mixedOrders = true) (hB : Region.lexB .any l.toArray = true)
    (h : WQ P l.toArray (Below B W) (fun a' => ∀ u, Below B W u → Q .normal a' u) l a) : (Code.region id l.toArray true).wp P Q a w := wp_region_bel B W hw hm hB h.out
def ZT : Tr := ⟨Z25.toList, 0, [0, 0, 0, 0, 0, 0]⟩
theorem zt_ok : ZT.ok := ⟨⟨rfl, fun u hu => by
  simp only [ZT, Z25, List.mem_cons, List.not_mem_nil, or_false] at hu
  rcases hu with rfl | rfl | rfl | rfl | rfl | rfl | rfl | rfl | rfl | rfl | rfl | rfl | rfl | rfl | rfl | rfl <;> exact ⟨_, rfl, by decide⟩⟩, (by decide : (Lit.int .u8 0).wf = true), rfl, (by decide : ∀ x ∈ ([0, 0, 0, 0, 0, 0] : List Int), (Lit.int .i64 x).wf = true)⟩
theorem eql_z (w : World) : (binOp .eql 83 (.agg Z40) (.agg Z40)).run Tryz.prog w = .ok (.bool true) w := eql_same zt_ok w
theorem Bk.sub {w0 u : World} {bs cs : List (Nat × Obj)} (s : Bk w0 bs u) (h : ∀ p ∈ cs, p ∈ bs) : Bk w0 cs u := ⟨s.1, fun p hp => s.2 p (h p hp)⟩
theorem box_in {u : World} {b : Nat} {t : Tr} (ht : t.ok) (hb : u.heap[b]? = some (.cells t.cells.toArray 83 (0, 0))) : TripIn u b 0 t := by
  have h : RowT u (.slice (some ⟨b, 0, none⟩) 1 1) [t] := ⟨some ⟨b, 0, none⟩, 1, rfl, fun _ => ⟨b, t.cells.toArray, rfl, hb, by simp; rw [List.take_of_length_le (by rw [ht.length]; exact Nat.le_refl _)]⟩⟩
  obtain ⟨g, cap, e, h1⟩ := h.get (i := 0) (t := t) (fun x hx => by rw [List.mem_singleton.1 hx]; exact ht) rfl
  injection e with e _ _; injection e with e; injection e with e; subst e
  exact h1
theorem zt_cells : ZT.cells.toArray = Z40 := by kernel_rfl
/-- a goal, shut: the walk stops here -/
structure Pause (p : Prop) : Prop where
  out : p
theorem wpList_pause {P : Program} {ops : Array Oper} {rest : List Oper} {op : Oper} {a : Act} {w : World} {Q : Exit → Act → World → Prop} (ty : TypeId) (x : Operand) (ho : op.op = .load ty x) (p : Addr) (hx : a.eval x = .pointer (some p)) (h : Pause (wpList P ops Q (op :: rest) a w)) : wpList P ops Q (op :: rest) a w := h.out
theorem six_get {ts : List Int} (h : ts.length = 6) {j : Nat} (hj : j < 6) : ∃ n, ts[j]? = some n := ⟨_, List.getElem?_eq_getElem (by omega)⟩
theorem wp_callv {P : Program} {o : Oper} {a : Act} {w : World} {K : Act → World → Prop} {Q : Exit → Act → World → Prop} {f : FuncId} {args : Array Value} {v : Value} {R : World → Prop} (hx : (execOp a.eval o).run P w = .ok (.enter f args) w) (hc : Calls P f args w fun e w' => e = .returned v ∧ R w') (h : ∀ w', R w' → K (a.put o.dst v) w') : o.wp P a w K Q := by
  unfold Oper.wp
  rw [hx, Oper.upon_enter]
  exact hc.mono fun e w' ⟨he, hr⟩ => by subst he; exact h w' hr
theorem key_at {q : St} (hq : q.ok) {i j : Nat} {a b : Tr} (ha : q.l[i]? = some a) (hb : q.l[j]? = some b) (e : a.k = b.k) : i = j := by
  have hn := hq.dk
  rw [List.pairwise_iff_getElem] at hn
  obtain ⟨hi, ha'⟩ := List.getElem?_eq_some_iff.1 ha
  obtain ⟨hj, hb'⟩ := List.getElem?_eq_some_iff.1 hb
  rcases Nat.lt_trichotomy i j with hlt | he | hlt
  · exact (hn i j hi hj hlt (by rw [ha', hb', e])).elim
  · exact he
  · exact (hn j i hj hi hlt (by rw [ha', hb', e])).elim
theorem cell_t {u : World} {b : Nat} {t : Tr} (ht : t.ok) {ty : TypeId} {fr : Nat × Nat} (hb : u.heap[b]? = some (.cells t.cells.toArray ty fr)) {j : Nat} {n : Int} (hn : t.ts[j]? = some n) : u.cell? ⟨b, 17 + j, none⟩ = some (.int .i64 n) := by
  rw [cell_of_row u b (17 + j) _ _ _ hb, List.getElem?_toArray, Tr.cells, List.getElem?_append_right (by rw [ht.k.1]; omega), ht.k.1, show 17 + j - 16 = j + 1 by omega, List.getElem?_cons_succ, List.getElem?_map, hn]; rfl
def Z28 : Array Value := #[.int .i64 0, .int .i64 0, .int .u8 0, .int .u8 0, .int .u8 0, .int .u8 0, .int .u8 0, .int .u8 0, .int .u8 0, .int .u8 0, .int .u8 0, .int .u8 0, .int .u8 0, .int .u8 0, .int .u8 0, .int .u8 0, .int .u8 0, .int .u8 0, .int .u8 0]
theorem zero28 : (Tryz.prog.info? 62).map (fun i => (i.zero, i.size)) = some (some (.agg Z28), 19) := by kernel_rfl
theorem size28 : (Tryz.prog.info? 62).map (·.size) = some 19 := by kernel_rfl
theorem z28s : Z28.size = 19 := rfl
theorem OpV.ok.length {o : OpV} (h : o.ok) : o.cells.length = 19 := by rw [h.cells]; simp [h.k.1]
theorem OpV.ok.one {o : OpV} (h : o.ok) : ∀ u ∈ o.cells, u.oneCell' = true := fun u hu => by
  rw [h.cells] at hu
  rcases List.mem_cons.1 hu with rfl | hu
  · rfl
  rcases List.mem_cons.1 hu with rfl | hu
  · rfl
  rcases List.mem_append.1 hu with hu | hu
  · exact h.k.one u hu
  · rw [List.mem_singleton.1 hu]; rfl
theorem Rd.row {α : Type} {cells : α → List Value} {size : Nat} {w : World} {B n : Nat} {A : Option Addr} {xs : List α} (h : Rd cells size w B A n xs) {i : Nat} {x : α} (hx : xs[i]? = some x) : ∃ b off, A = some ⟨b, off, none⟩ ∧ b < B ∧ w.rangeAt b (off + i * size) (cells x) := by
  have hi : i < n := by rw [← h.len]; exact (List.getElem?_eq_some_iff.1 hx).1
  obtain ⟨b, off, e, hl, hc⟩ := h.at_ (by omega)
  exact ⟨b, off, e, hl, fun j v hv => hc i x hx j v hv⟩
theorem take_no {l : List Tr} {p : Tr → Prop} {j : Nat} {t : Tr} (h : ∀ u ∈ l.take j, ¬ p u) (ht : l[j]? = some t) (hn : ¬ p t) : ∀ u ∈ l.take (j + 1), ¬ p u := by
  intro u hu
  rw [List.take_add_one, ht] at hu
  rcases List.mem_append.1 hu with hu | hu
  · exact h u hu
  · have e : u = t := by simpa using hu
    rw [e]; exact hn
theorem ref_new (w : World) : Calls Tryz.prog 6 #[] w fun e w' => e = .returned (.pointer (some ⟨w.heap.size, 0, none⟩)) ∧ w' = w.alloc (.cells #[.slice none 0 0, .int .i64 0] 77) := by
  go_enter Tryz.func6, Tryz.ntmps6
  go_wp2
  go_ret
  exact ⟨rfl, rfl⟩
set_option maxHeartbeats 2000000 in
theorem ref_at (rb : Nat) (tick clock : Int) (w : World) (cc : w.cell? ⟨rb, 1, none⟩ = some (.int .i64 clock)) : Calls Tryz.prog 99 #[.pointer (some ⟨rb, 0, none⟩), .int .i64 tick] w (Keeps (.int .i64 (atE tick clock)) w) := by
  unfold atE
  by_cases h0 : tick < 0
  · rw [if_pos (.inl h0)]
    go_enter Tryz.func99, Tryz.ntmps99
    go_wp2
    go_ret
    exact keeps_eq rfl
  · by_cases h1 : 1099511627776 < tick
    · rw [if_pos (.inr h1)]
      go_enter Tryz.func99, Tryz.ntmps99
      go_wp2
      go_ret
      exact keeps_eq rfl
    · rw [if_neg (fun h => h.elim h0 h1)]
      by_cases h2 : tick < clock
      · rw [if_pos h2]
        go_enter Tryz.func99, Tryz.ntmps99
        go_wp2
        go_ret
        exact keeps_eq rfl
      · rw [if_neg h2]
        go_enter Tryz.func99, Tryz.ntmps99
        go_wp2
        go_ret
        exact keeps_eq rfl
def Tr.onB (t : Tr) : Bool := t.s != 4 && t.s != 5
theorem onB_on {t : Tr} : t.onB = true ↔ t.on := by unfold Tr.onB Tr.on; simp
set_option maxHeartbeats 2000000 in
theorem on_ok (t : Tr) (ht : t.ok) (b : Bool) (hb : t.onB = b) (w : World) : Calls Tryz.prog 100 #[.agg t.cells.toArray] w (Gives (.bool b) w) := by
  have c := cell_s ht (heap_last w (.cells t.cells.toArray 83))
  have h1 := Lib.hid ht
  have H2 := Lib.hid hb
  clear ht hb
  go_enter Tryz.func100, Tryz.ntmps100
  by_cases h4 : t.s = 4
  · have e4 : (t.s != 4) = false := by simp [h4]
    have e4' : (t.s == 4) = true := by simp [h4]
    have e5 : b = false := by rw [← H2.out]; simp [Tr.onB, h4]
    clear h4
    subst e5
    go_wp2
    go_ret
    exact gives_of_eq rfl ((Below.refl _ w).alloc (Nat.le_refl _) _)
  · have e4 : (t.s != 4) = true := by simp [h4]
    have e4' : (t.s == 4) = false := by simp [h4]
    have e5 : (t.s != 5) = b := by rw [← H2.out]; simp [Tr.onB, h4]
    clear h4
    go_wp2
    go_ret
    exact gives_of_eq rfl ((Below.refl _ w).alloc (Nat.le_refl _) _)
theorem fol_1 {s : Int} : fol 1 s = (s == 2 || s == 5) := by unfold fol; simp
theorem fol_2 {s : Int} : fol 2 s = (s == 3 || s == 5) := by unfold fol; simp
theorem fol_3 {s : Int} : fol 3 s = (s == 4) := by unfold fol; simp
theorem fol_0 {was s : Int} (h1 : was ≠ 1) (h2 : was ≠ 2) (h3 : was ≠ 3) : fol was s = false := by unfold fol; simp [h1, h2, h3]
set_option maxHeartbeats 2000000 in
theorem ref_follows (was s : Int) (w : World) : Calls Tryz.prog 103 #[.int .u8 was, .int .u8 s] w (Keeps (.bool (fol was s)) w) := by
  by_cases h1 : was = 1
  · subst h1
    rw [fol_1]
    go_enter Tryz.func103, Tryz.ntmps103
    cases hs : (s == 2) with
    | true =>
      go_wp2
      go_ret
      exact keeps_eq rfl
    | false =>
      go_wp2
      go_ret
      exact keeps_eq rfl
  · by_cases h2 : was = 2
    · subst h2
      rw [fol_2]
      go_enter Tryz.func103, Tryz.ntmps103
      cases hs : (s == 3) with
      | true =>
        go_wp2
        go_ret
        exact keeps_eq rfl
      | false =>
        go_wp2
        go_ret
        exact keeps_eq rfl
    · by_cases h3 : was = 3
      · subst h3
        rw [fol_3]
        go_enter Tryz.func103, Tryz.ntmps103
        go_wp2
        go_ret
        exact keeps_eq rfl
      · rw [fol_0 h1 h2 h3]
        have e1 : (was == 1) = false := by simpa using h1
        have e2 : (was == 2) = false := by simpa using h2
        have e3 : (was == 3) = false := by simpa using h3
        clear h1 h2 h3
        go_enter Tryz.func103, Tryz.ntmps103
        go_wp2
        go_ret
        exact keeps_eq rfl
end Go.Proofs.YtnooghehmgbemaaGreat
