/- Trip: alive. -/
import Derived.Test.YtnooghehmgbemaaGreatB16
namespace Go.Proofs.YtnooghehmgbemaaGreat
open Go.RowKit
set_option linter.unusedVariables false
set_option linter.unusedSimpArgs false

section
variable {P : Program} {ops : Array Oper} {rest : List Oper} {op : Oper} {a : Act} {w : World} {K : Act → World → Prop} {Q : Exit → Act → World → Prop} {S : World → Prop}
/-- an operation whose guard lets it by -/
theorem wpList_w (hw : Region.wanted op (yielded ops a.tmps) = true) (h : ∀ K : Act → World → Prop, (∀ a' w', wpList P ops Q rest a' w' → K a' w') → op.wp P a w K Q) : wpList P ops Q (op :: rest) a w := by
  unfold wpList
  rw [if_pos hw]
  exact .inl (h _ (fun _ _ h => h))
theorem wpList_loadrow_g (hw : Region.wanted op (yielded ops a.tmps) = true) (ty : TypeId) (x : Operand) (ho : op.op = .load ty x) (b : Nat) (hx : a.eval x = .pointer (some ⟨b, 0, none⟩)) (cs : Array Value) (t : TypeId) (d : TypeDesc)
    (hS : w.heap[b]? = some (.cells cs t (0, 0))) (hu : P.underlying ty = some d) (hd : d.isRow = true) (hi : (P.info? ty).map (·.size) = some cs.size) (h : wpList P ops Q rest (a.put op.dst (.agg cs)) w) : wpList P ops Q (op :: rest) a w :=
  wpList_w hw fun _ hK => wp_loadrow ty x ho b hx cs t d hS hu hd hi (hK _ _ h)
theorem wpList_loadmid_g (hw : Region.wanted op (yielded ops a.tmps) = true) (ty : TypeId) (x : Operand) (ho : op.op = .load ty x) (b o : Nat) (hx : a.eval x = .pointer (some ⟨b, o, none⟩)) (cs : List Value) (d : TypeDesc) (hc : w.rangeAt b o cs)
    (hu : P.underlying ty = some d) (hd : d.isRow = true) (hi : (P.info? ty).map (·.size) = some cs.length) (h : wpList P ops Q rest (a.put op.dst (.agg cs.toArray)) w) : wpList P ops Q (op :: rest) a w :=
  wpList_w hw fun _ hK => wp_load_mid ty x ho b o hx cs d hc hu hd hi (hK _ _ h)
theorem wpList_build_g (hw : Region.wanted op (yielded ops a.tmps) = true) (t : TypeId) (ps : Array (Nat × Operand)) (ho : op.op = .build t ps) (z : Value) (hb : ∀ u : World, (Instr.build t (ps.map fun (i, x) => (i, a.eval x))).run P u = .ok z u) (h : wpList P ops Q rest (a.put op.dst z) w) : wpList P ops Q (op :: rest) a w := by
  refine wpList_w hw fun _ hK => ?_
  unfold Oper.wp execOp
  simp only [ho, Sem.run_bind, Sem.run_pure, hb w, Result.andThen_ok]
  exact hK _ _ h
theorem wpList_eq_g (hw : Region.wanted op (yielded ops a.tmps) = true) (ne : Bool) (t s : TypeId) (x y : Operand) (ho : op.op = .binOp (if ne then .neq else .eql) t x y s) (xs ys : Array Value) (v : Value) (hx : a.eval x = .agg xs) (hy : a.eval y = .agg ys) (hm : P.eqGuardType P.depth t = false) (hr : (binOp (if ne then .neq else .eql) t (.agg xs) (.agg ys)).run P w = .ok v w) (h : wpList P ops Q rest (a.put op.dst v) w) : wpList P ops Q (op :: rest) a w := by
  refine wpList_w hw fun _ hK => ?_
  have hg := run_eqGuard_agg (P := P) (w := w) (if ne then BinOp.neq else .eql) t x y xs ys hm
  unfold Oper.wp execOp
  simp only [ho, hx, hy, Sem.run_bind, Sem.run_pure, hg, hr, Result.andThen_ok]
  exact hK _ _ h
end
def JK : List Value := [.int .u8 0, .int .u8 0, .int .u8 0, .int .u8 0, .int .u8 0, .int .u8 0, .int .u8 0, .int .u8 1, .int .u8 0, .int .u8 0, .int .u8 0, .int .u8 0, .int .u8 0, .int .u8 0, .int .u8 0, .int .u8 7]
theorem jk_ok : Bs 16 JK := ⟨rfl, fun u hu => by
  simp only [JK, List.mem_cons, List.not_mem_nil, or_false] at hu
  rcases hu with rfl | rfl | rfl | rfl | rfl | rfl | rfl | rfl | rfl | rfl | rfl | rfl | rfl | rfl | rfl | rfl <;> exact ⟨_, rfl, by decide⟩⟩
open Classical in
theorem eql_tr {x y : Tr} (hx : x.ok) (hy : y.ok) (w : World) : (binOp .eql 83 (.agg x.cells.toArray) (.agg y.cells.toArray)).run Tryz.prog w = .ok (.bool (decide (x = y))) w ∧ (binOp .neq 83 (.agg x.cells.toArray) (.agg y.cells.toArray)).run Tryz.prog w = .ok (.bool (!decide (x = y))) w := by
  obtain ⟨r, hr, h1, h2⟩ := eql_t hx.isT hy.isT w
  have e : r = decide (x = y) := by
    rw [Bool.eq_iff_iff, hr, decide_eq_true_eq]
    exact ⟨fun e => cells_inj hx hy e, fun e => by rw [e]⟩
  rw [← e]; exact ⟨h1, h2⟩
open Classical in
theorem eql_jj {x y : List Value} (hx : Bs 16 x) (hy : Bs 16 y) (w : World) : (binOp .eql 59 (.agg x.toArray) (.agg y.toArray)).run Tryz.prog w = .ok (.bool (decide (x = y))) w ∧ (binOp .neq 59 (.agg x.toArray) (.agg y.toArray)).run Tryz.prog w = .ok (.bool (!decide (x = y))) w := by
  obtain ⟨r, hr, h1, h2⟩ := eql_j hx hy w
  have e : r = decide (x = y) := by rw [Bool.eq_iff_iff, hr, decide_eq_true_eq]
  rw [← e]; exact ⟨h1, h2⟩
open Classical in
theorem eql_ii {x y : List Value} (hx : Bs 8 x) (hy : Bs 8 y) (w : World) : (binOp .eql 57 (.agg x.toArray) (.agg y.toArray)).run Tryz.prog w = .ok (.bool (decide (x = y))) w ∧ (binOp .neq 57 (.agg x.toArray) (.agg y.toArray)).run Tryz.prog w = .ok (.bool (!decide (x = y))) w := by
  obtain ⟨r, hr, h1, h2⟩ := eql_id hx hy w
  have e : r = decide (x = y) := by rw [Bool.eq_iff_iff, hr, decide_eq_true_eq]
  rw [← e]; exact ⟨h1, h2⟩
theorem eql_same {x : Tr} (hx : x.ok) (w : World) : (binOp .eql 83 (.agg x.cells.toArray) (.agg x.cells.toArray)).run Tryz.prog w = .ok (.bool true) w := by
  classical
  exact ((eql_tr hx hx w).1).trans (by rw [decide_eq_true rfl])
theorem guard40 : Tryz.prog.eqGuardType Tryz.prog.depth 83 = false := by kernel_rfl
theorem guard25 : Tryz.prog.eqGuardType Tryz.prog.depth 59 = false := by kernel_rfl
theorem guard23 : Tryz.prog.eqGuardType Tryz.prog.depth 57 = false := by kernel_rfl
def JT : Tr := ⟨JK, 3, [-1, 3, 5, 6, -1, -1]⟩
theorem jt_ok : JT.ok := ⟨jk_ok, (by decide : (Lit.int .u8 3).wf = true), rfl, (by decide : ∀ x ∈ ([-1, 3, 5, 6, -1, -1] : List Int), (Lit.int .i64 x).wf = true)⟩
set_option maxRecDepth 20000 in
set_option maxHeartbeats 8000000 in
theorem alive_ok (w : World) : Calls Tryz.prog 13 #[] w (Gives (.bool true) w) := by
  go_enter Tryz.func13, Tryz.ntmps13
  go_wp2_with fail
  refine (sit_new w w w.heap.size (Nat.le_refl _) (Below.refl _ w) [] (by simp)).mono ?_
  rintro e w1 ⟨tb, rfl, S1⟩
  go_wp2_with (first
    | (refine wpList_allocz rfl 59 (by rfl) Z25 16 zero25 ?_)
    | (refine wpList_storerow rfl 59 _ _ (by rfl) w1.heap.size (by rfl) Z25 JK.toArray (by rfl) (heap_last w1 _) size25 rfl (by kernel_rfl) ?_)
    | (refine wpList_loadrow rfl 59 _ (by rfl) w1.heap.size (by rfl) JK.toArray 59 _ (setRow_heap _ _ _ _ _ _ (heap_last w1 _)) Tryz.underlying59 rfl size25 ?_))
  have S2 := S1.box Z25 JK.toArray 59
  have lb2 := S1.size
  generalize (w1.alloc (.cells Z25 59)).setRow w1.heap.size JK.toArray = w2 at *
  generalize w1.heap.size = b2 at *
  clear S1
  refine (S2.assign 3 JK jk_ok (by simp)).mono ?_
  rw [assign_first 3 JK (by decide) (by decide)]
  rintro e w3 ⟨rfl, S3⟩
  clear S2
  have q3 := S3.at (b := b2) (o := .cells JK.toArray 59) (by simp)
  go_wp2_with (refine wpList_loadrow_g (by rfl) 59 _ (by rfl) b2 (by rfl) JK.toArray 59 _ q3 Tryz.underlying59 rfl size25 ?_)
  clear q3
  refine (S3.assign 3 JK jk_ok (by simp)).mono ?_
  rw [show (⟨3, [newTr JK 3]⟩ : St).assign 3 JK = (130, ⟨3, [newTr JK 3]⟩) from assign_again 3 3 (newTr JK 3) (by decide) (by decide) (by decide)]
  rintro e w4 ⟨rfl, S4⟩
  clear S3
  have q4 := S4.at (b := b2) (o := .cells JK.toArray 59) (by simp)
  go_wp2_with (refine wpList_loadrow_g (by rfl) 59 _ (by rfl) b2 (by rfl) JK.toArray 59 _ q4 Tryz.underlying59 rfl size25 ?_)
  clear q4
  refine (S4.go 5 3 JK jk_ok).mono ?_
  rw [show (⟨3, [newTr JK 3]⟩ : St).go 5 JK 3 = (240, ⟨3, [newTr JK 3]⟩) from (go_one 3 5 3 (newTr JK 3) (by decide) (by decide) (by decide) (by decide) (by decide)).trans (if_neg (by decide))]
  rintro e w5 ⟨rfl, S5⟩
  clear S4
  have q5 := S5.at (b := b2) (o := .cells JK.toArray 59) (by simp)
  go_wp2_with (refine wpList_loadrow_g (by rfl) 59 _ (by rfl) b2 (by rfl) JK.toArray 59 _ q5 Tryz.underlying59 rfl size25 ?_)
  clear q5
  refine (S5.go 5 2 JK jk_ok).mono ?_
  rw [show (⟨3, [newTr JK 3]⟩ : St).go 5 JK 2 = (0, ⟨5, [⟨JK, 2, [-1, 3, 5, -1, -1, -1]⟩]⟩) from (go_one 3 5 2 (newTr JK 3) (by decide) (by decide) (by decide) (by decide) (by decide)).trans (if_pos (by decide))]
  rintro e w6 ⟨rfl, S6⟩
  clear S5
  have q6 := S6.at (b := b2) (o := .cells JK.toArray 59) (by simp)
  go_wp2_with (refine wpList_loadrow_g (by rfl) 59 _ (by rfl) b2 (by rfl) JK.toArray 59 _ q6 Tryz.underlying59 rfl size25 ?_)
  clear q6
  refine (S6.go 6 3 JK jk_ok).mono ?_
  rw [show (⟨5, [⟨JK, 2, [-1, 3, 5, -1, -1, -1]⟩]⟩ : St).go 6 JK 3 = (0, ⟨6, [⟨JK, 3, [-1, 3, 5, 6, -1, -1]⟩]⟩) from (go_one 5 6 3 ⟨JK, 2, [-1, 3, 5, -1, -1, -1]⟩ (by decide) (by decide) (by decide) (by decide) (by decide)).trans (if_pos (by decide))]
  rintro e w7 ⟨rfl, S7⟩
  clear S6
  have q7 := S7.at (b := b2) (o := .cells JK.toArray 59) (by simp)
  go_wp2_with (refine wpList_loadrow_g (by rfl) 59 _ (by rfl) b2 (by rfl) JK.toArray 59 _ q7 Tryz.underlying59 rfl size25 ?_)
  clear q7
  refine (S7.go 4 4 JK jk_ok).mono ?_
  rw [show (⟨6, [⟨JK, 3, [-1, 3, 5, 6, -1, -1]⟩]⟩ : St).go 4 JK 4 = (4, ⟨6, [⟨JK, 3, [-1, 3, 5, 6, -1, -1]⟩]⟩) from go_late 6 4 4 ⟨JK, 3, [-1, 3, 5, 6, -1, -1]⟩ (by decide) (by decide) (by decide) (by decide) (by decide) JK]
  rintro e w8 ⟨rfl, S8⟩
  clear S7
  have q8 := S8.at (b := b2) (o := .cells JK.toArray 59) (by simp)
  have r8 : w8.rangeAt b2 8 (JK.drop 8) := range_sub q8 8 (a := JK.take 8) (z := []) rfl rfl
  clear q8
  go_wp2_with (refine wpList_loadmid_g (by rfl) 57 _ (by rfl) b2 8 (by rfl) (JK.drop 8) _ r8 Tryz.underlying57 rfl size23 ?_)
  clear r8
  refine (S8.of (JK.drop 8) (Bs.drop (n := 8) jk_ok)).mono ?_
  rw [show tripV ((⟨6, [⟨JK, 3, [-1, 3, 5, 6, -1, -1]⟩]⟩ : St).onD (JK.drop 8)) = .tuple #[.agg (Tr.cells ⟨JK, 3, [-1, 3, 5, 6, -1, -1]⟩).toArray, .bool true] from congrArg tripV (onD_one 6 ⟨JK, 3, [-1, 3, 5, 6, -1, -1]⟩ ⟨by decide, by decide⟩)]
  rintro e w9 ⟨rfl, S9, _⟩
  clear S8
  have S10 := S9.box Z40 (Tr.cells ⟨JK, 3, [-1, 3, 5, 6, -1, -1]⟩).toArray 83
  have q10 := S10.at (b := b2) (o := .cells JK.toArray 59) (by simp)
  have t10 := S10.at (b := w9.heap.size) (o := .cells (Tr.cells ⟨JK, 3, [-1, 3, 5, 6, -1, -1]⟩).toArray 83) (by simp)
  have L := S10.list (by simp)
  go_wp2_with (first
    | (refine wpList_allocz rfl 83 (by rfl) Z40 23 zero40 ?_)
    | (refine wpList_storerow rfl 83 _ _ (by rfl) w9.heap.size (by rfl) Z40 (Tr.cells ⟨JK, 3, [-1, 3, 5, 6, -1, -1]⟩).toArray (by rfl) (heap_last w9 _) size40 rfl (by kernel_rfl) ?_)
    | (refine wpList_loadrow_g (by rfl) 83 _ (by rfl) w9.heap.size (by rfl) (Tr.cells JT).toArray 83 _ t10 Tryz.underlying83 rfl size40 ?_)
    | (refine wpList_loadrow_g (by rfl) 59 _ (by rfl) b2 (by rfl) JK.toArray 59 _ q10 Tryz.underlying59 rfl size25 ?_)
    | (refine wpList_build_g (by rfl) 83 _ (by rfl) (.agg JT.cells.toArray) (fun u => by kernel_rfl) ?_)
    | (refine wpList_eq_g (by rfl) false 83 _ _ _ (by rfl) JT.cells.toArray JT.cells.toArray (.bool true) (by rfl) (by rfl) guard40 (eql_same jt_ok _) ?_))
  refine L.mono ?_
  rintro e w11 ⟨v, rfl, S11, _, hown⟩
  obtain ⟨g, cap, rfl, _, _⟩ := hown.form (by simp)
  go_wp2_with fail
  go_ret
  exact gives_of_eq rfl S11.below
end Go.Proofs.YtnooghehmgbemaaGreat
