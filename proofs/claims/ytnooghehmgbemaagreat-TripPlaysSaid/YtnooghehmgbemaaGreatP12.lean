/- TripPlays: marks. -/
import Derived.Test.YtnooghehmgbemaaGreatP10
namespace Go.Proofs.YtnooghehmgbemaaGreat
open Go.RowKit
set_option linter.unusedVariables false
set_option linter.unusedSimpArgs false

/-- the mark of list number n -/
def MK (n : Int) : Tr := ⟨Z25.toList, 99, [n, 0, 0, 0, 0, 0]⟩
theorem mk_ok {n : Int} (h0 : 0 ≤ n) (h1 : n ≤ 1099511627776) : (MK n).ok := ⟨zt_ok.k, (by decide : (Lit.int .u8 99).wf = true), rfl, fun x hx => by
  simp only [MK, List.mem_cons, List.not_mem_nil, or_false] at hx
  rcases hx with rfl | rfl | rfl | rfl | rfl | rfl
  · exact wf64 h0 h1
  all_goals decide⟩
theorem build81m (n : Int) (u : World) : (Instr.build 81 #[(0, .int .i64 n)]).run Tryz.prog u = .ok (.agg #[.int .i64 n, .int .i64 0, .int .i64 0, .int .i64 0, .int .i64 0, .int .i64 0]) u := by kernel_rfl
theorem build83m (n : Int) (u : World) : (Instr.build 83 #[(1, .int .u8 99), (2, .agg #[.int .i64 n, .int .i64 0, .int .i64 0, .int .i64 0, .int .i64 0, .int .i64 0])]).run Tryz.prog u = .ok (.agg (MK n).cells.toArray) u := by kernel_rfl
theorem wpList_buildx {P : Program} {ops : Array Oper} {rest : List Oper} {o : Oper} {a : Act} {w : World} {Q : Exit → Act → World → Prop} (hw : Region.wanted o (yielded ops a.tmps) = true) (t : TypeId) (ps : Array (Nat × Operand)) (vs : Array (Nat × Value)) (ho : o.op = .build t ps) (v : Value) (he : (ps.map fun (i, x) => (i, a.eval x)) = vs) (hb : ∀ u : World, (Instr.build t vs).run P u = .ok v u) (h : wpList P ops Q rest (a.put o.dst v) w) : wpList P ops Q (o :: rest) a w := by
  refine wpList_w hw fun _ hK => ?_
  unfold Oper.wp execOp
  simp only [ho, Sem.run_bind, Sem.run_pure]
  rw [show (Array.map (fun x => (x.fst, a.eval x.snd)) ps) = vs from he, hb w]
  exact hK _ _ h
theorem results_one {f : Func} {tmps : Array Value} {w : World} {a : Tmp} {t tt : TypeId} {b : Nat} {cs : Array Value} {d : TypeDesc} (hf : f.results = #[.cell a t]) (ha : tmps[a]?.getD undef = .pointer (some ⟨b, 0, none⟩))
    (hh : w.heap[b]? = some (.cells cs tt (0, 0))) (hu : Tryz.prog.underlying t = some d) (hd : d.isRow = true) (hi : (Tryz.prog.info? t).map (·.size) = some cs.size) : (results f tmps).run Tryz.prog w = .ok (.agg cs) w := by
  have h := run_loadVar_row (P := Tryz.prog) w b tt t cs (0, 0) d hh hu (by cases d <;> first | rfl | cases hd) hi
  have e1 : (asAddr (.pointer (some ⟨b, 0, none⟩))).run Tryz.prog w = .ok ⟨b, 0, none⟩ w := rfl
  simp [results, hf, ha, h, e1, Result.andThen]
theorem mk_len (n : Int) : (MK n).cells.length = 23 := rfl
theorem mk_one (n : Int) : ∀ u ∈ (MK n).cells, u.oneCell' = true := fun u hu => by
  rcases List.mem_append.1 hu with h | h
  · exact zt_ok.k.one u h
  · rcases List.mem_cons.1 h with rfl | h
    · rfl
    · obtain ⟨x, _, rfl⟩ := List.mem_map.1 h; rfl
set_option maxHeartbeats 2000000 in
theorem mark_ok (n : Int) (w : World) : Calls Tryz.prog 121 #[.int .i64 n] w (Gives (.agg (MK n).cells.toArray) w) := by
  have hlx := mk_len n
  have hox := all_oneCell_toArray (mk_one n)
  have hh := setRow_heap _ _ _ (MK n).cells.toArray _ _ (heap_last w (.cells Z40 83))
  go_enter Tryz.func121, Tryz.ntmps121
  go_wp2_with (first
    | (refine wpList_allocz rfl 83 (by rfl) Z40 23 zero40 ?_)
    | (refine wpList_buildx (by rfl) 81 _ #[(0, .int .i64 n)] (by rfl) (.agg #[.int .i64 n, .int .i64 0, .int .i64 0, .int .i64 0, .int .i64 0, .int .i64 0]) (by simp only [List.map_toArray, List.map_cons, List.map_nil]; rfl) (build81m n) ?_)
    | (refine wpList_buildx (by rfl) 83 _ #[(1, .int .u8 99), (2, .agg #[.int .i64 n, .int .i64 0, .int .i64 0, .int .i64 0, .int .i64 0, .int .i64 0])] (by rfl) (.agg (MK n).cells.toArray) (by simp only [List.map_toArray, List.map_cons, List.map_nil]; rfl) (build83m n) ?_)
    | (refine wpList_storerow rfl 83 _ _ (by rfl) w.heap.size (by rfl) Z40 (MK n).cells.toArray (by rfl) (heap_last w _) (by rw [List.size_toArray, hlx]; exact size40) (by rw [z40s, List.size_toArray, hlx]) hox ?_)
    | fail)
  refine bodyPost_ret (v := .agg (MK n).cells.toArray) ?_ rfl (gives_of_eq rfl (Below.setRow ((Below.refl _ w).alloc (Nat.le_refl _) _) (Nat.le_refl _) _))
  exact results_one (b := w.heap.size) (tt := 83) rfl rfl hh Tryz.underlying83 rfl (by rw [List.size_toArray, hlx]; exact size40)
set_option maxHeartbeats 2000000 in
theorem is_ok (n : Int) (h0 : 0 ≤ n) (h1 : n ≤ 1099511627776) (w : World) : Calls Tryz.prog 146 #[.agg (MK n).cells.toArray, .int .i64 n] w (Gives (.bool true) w) := by
  have hlx := mk_len n
  have q := heap_last w (.cells (MK n).cells.toArray 83)
  have E := Lib.hid (eql_same (mk_ok h0 h1))
  clear h0 h1
  go_enter Tryz.func146, Tryz.ntmps146
  go_wp2_with (first
    | (refine wpList_loadrow_g (by rfl) 83 _ (by rfl) w.heap.size (by rfl) (MK n).cells.toArray 83 _ q Tryz.underlying83 rfl (by rw [List.size_toArray, hlx]; exact size40) ?_)
    | (refine wpList_buildx (by rfl) 81 _ #[(0, .int .i64 n)] (by rfl) (.agg #[.int .i64 n, .int .i64 0, .int .i64 0, .int .i64 0, .int .i64 0, .int .i64 0]) (by simp only [List.map_toArray, List.map_cons, List.map_nil]; rfl) (build81m n) ?_)
    | (refine wpList_buildx (by rfl) 83 _ #[(1, .int .u8 99), (2, .agg #[.int .i64 n, .int .i64 0, .int .i64 0, .int .i64 0, .int .i64 0, .int .i64 0])] (by rfl) (.agg (MK n).cells.toArray) (by simp only [List.map_toArray, List.map_cons, List.map_nil]; rfl) (build83m n) ?_)
    | (refine wpList_eq_g (by rfl) false 83 _ _ _ (by rfl) (MK n).cells.toArray (MK n).cells.toArray (.bool true) (by rfl) (by rfl) guard40 (E.out _) ?_)
    | fail)
  go_ret
  exact gives_of_eq rfl ((Below.refl _ w).alloc (Nat.le_refl _) _)
end Go.Proofs.YtnooghehmgbemaaGreat
