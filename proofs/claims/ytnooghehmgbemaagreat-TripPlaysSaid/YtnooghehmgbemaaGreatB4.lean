/- Trip: Get. -/
import Derived.Test.YtnooghehmgbemaaGreatB3
import Derived.Lib.Hide
namespace Go.Proofs.YtnooghehmgbemaaGreat
open Go.RowKit
set_option linter.unusedVariables false
set_option linter.unusedSimpArgs false

theorem heap_last (w : World) (o : Obj) : (w.alloc o).heap[w.heap.size]? = some o := heap_alloc_last w o
theorem heap_last1 (w : World) (o o' : Obj) : ((w.alloc o).alloc o').heap[w.heap.size + 1]? = some o' := by
  have := heap_last (w.alloc o) o'
  rwa [World.size_alloc] at this
theorem heap_first (w : World) (o o' : Obj) : ((w.alloc o).alloc o').heap[w.heap.size]? = some o := (Below.heap_alloc _ _ _ (by simp)).trans (heap_last w o)
theorem Below.setRow {B : Nat} {w u : World} (h : Below B w u) {b : Nat} (hb : B ≤ b) (cs : Array Value) : Below B w (u.setRow b cs) :=
  ⟨h.os, h.tape, h.output, by simp; exact h.size, fun k hk => (setRow_other u b k cs (by omega)).trans (h.block k hk)⟩
theorem results_cell {f : Func} {tmps : Array Value} {w : World} {a c : Tmp} {t tt : TypeId} {b : Nat} {cs : Array Value} {v : Value} {d : TypeDesc} (hf : f.results = #[.cell a t, .tmp c]) (ha : tmps[a]?.getD undef = .pointer (some ⟨b, 0, none⟩)) (hc : tmps[c]?.getD undef = v)
    (hh : w.heap[b]? = some (.cells cs tt (0, 0))) (hu : Tryz.prog.underlying t = some d) (hd : d.isRow = true) (hi : (Tryz.prog.info? t).map (·.size) = some cs.size) : (results f tmps).run Tryz.prog w = .ok (.tuple #[.agg cs, v]) w := by
  have h := run_loadVar_row (P := Tryz.prog) w b tt t cs (0, 0) d hh hu (by cases d <;> first | rfl | cases hd) hi
  have e1 : (asAddr (.pointer (some ⟨b, 0, none⟩))).run Tryz.prog w = .ok ⟨b, 0, none⟩ w := rfl
  simp [results, hf, ha, hc, h, e1, Result.andThen]

set_option maxHeartbeats 2000000 in
theorem get_nil (k : List Value) (hk : Bs 16 k) (w : World) : Calls Tryz.prog 18 #[.pointer none, .agg k.toArray] w (Gives (.tuple #[.agg Z40, .bool false]) w) := by
  go_enter Tryz.func18, Tryz.ntmps18
  go_wp2_with (first
    | (refine wpList_allocz rfl 83 (by rfl) Z40 23 zero40 ?_)
    | (refine wpList_build rfl 83 (by rfl) (.agg Z40) build40 ?_)
    | (refine wpList_storerow rfl 83 _ _ (by rfl) (w.heap.size + 1) (by rfl) Z40 Z40 (by rfl) (heap_last1 w _ _) size40 rfl z40o ?_))
  refine bodyPost_ret (v := .tuple #[.agg Z40, .bool false]) ?_ rfl (gives_of_eq rfl ?_)
  · exact results_cell (b := w.heap.size + 1) (tt := 83) rfl rfl rfl (setRow_heap _ _ _ _ _ _ (heap_last1 w _ _)) Tryz.underlying83 rfl size40
  · exact Below.setRow (((Below.refl _ w).alloc (Nat.le_refl _) _).alloc (by simp) _) (by omega) _

set_option maxRecDepth 20000 in
set_option maxHeartbeats 4000000 in
theorem get_at (tb : Nat) (mv : Value) (k : List Value) (hk : Bs 16 k) (r : Array Value) (ok : Bool) (w : World) (cm : w.cell? ⟨tb, 2, none⟩ = some mv) (hr : r.size = 23) (h1 : r.all (·.oneCell') = true)
    (hrun : ∀ u : World, Below w.heap.size w u → (Instr.lookup 71 mv (.agg k.toArray) true).run Tryz.prog u = .ok (.tuple #[.agg r, .bool ok]) u) :
    Calls Tryz.prog 18 #[.pointer (some ⟨tb, 0, none⟩), .agg k.toArray] w (Gives (.tuple #[.agg r, .bool ok]) w) := by
  have ltb : tb < w.heap.size := World.block_lt_of_cell? w _ cm
  have HR := Lib.hid hrun
  go_enter Tryz.func18, Tryz.ntmps18
  clear hrun
  go_wp2_with (first
    | (refine wpList_allocz rfl 83 (by rfl) Z40 23 zero40 ?_)
    | (refine wpList_build rfl 83 (by rfl) (.agg Z40) build40 ?_))
  have hrun := HR.out
  have b2 : Below w.heap.size w ((w.alloc (.cells k.toArray 59)).alloc (.cells Z40 83)) := ((Below.refl _ w).alloc (Nat.le_refl _) _).alloc (by simp) _
  have h3 : ((w.alloc (.cells k.toArray 59)).alloc (.cells Z40 83)).heap[w.heap.size]? = some (.cells k.toArray 59 (0, 0)) := heap_first w _ _
  have h4 : ((w.alloc (.cells k.toArray 59)).alloc (.cells Z40 83)).heap[w.heap.size + 1]? = some (.cells Z40 83 (0, 0)) := heap_last1 w _ _
  refine wp_region_held_drew (S := (fun u => Below w.heap.size w u ∧ u.heap[w.heap.size]? = some (.cells k.toArray 59 (0, 0)) ∧ u.heap[w.heap.size + 1]? = some (.cells Z40 83 (0, 0)) ∧ w.heap.size + 2 ≤ u.heap.size)) (by kernel_rfl) (⟨b2.drew, h3, h4, by show w.heap.size + 2 ≤ _; simp⟩) ?_
  intro hS
  refine wpAnyH_take (i := 0) (oi := { dst := some 12, op := Op.move (Operand.tmp 0), type := 24, pos := "trip.go:104", after := #[], guard := none }) (v := .pointer (some ⟨tb, 0, none⟩)) rfl (by kernel_rfl) (by kernel_rfl) (by kernel_rfl) (fun _ _ _ h => h) (Or.inl ⟨by rfl, ?_⟩) (by assumption) ?_
  · intro z hz
    go_simp
  try simp only [Act.put, List.setIfInBounds_toArray, List.set_cons_zero, List.set_cons_succ]
  refine wpAnyH_take (i := 1) (oi := { dst := some 13, op := Op.nilCheck (Operand.tmp 12), type := 0, pos := "trip.go:104", after := #[{ on := 0, ground := Ground.data }], guard := none }) (v := .pointer (some ⟨tb, 0, none⟩)) rfl (by kernel_rfl) (by kernel_rfl) (by kernel_rfl) (fun _ _ _ h => h) (Or.inl ⟨by rfl, ?_⟩) (by assumption) ?_
  · intro z hz
    go_simp
  try simp only [Act.put, List.setIfInBounds_toArray, List.set_cons_zero, List.set_cons_succ]
  refine wpAnyH_take (i := 2) (oi := { dst := some 14, op := Op.fieldAddr 75 (Operand.tmp 13) 2, type := 0, pos := "trip.go:104", after := #[{ on := 1, ground := Ground.data }], guard := none }) (v := .pointer (some ⟨tb, 2, none⟩)) rfl (by kernel_rfl) (by kernel_rfl) (by kernel_rfl) (fun _ _ _ h => h) (Or.inl ⟨by rfl, ?_⟩) (by assumption) ?_
  · intro z hz
    go_simp
  try simp only [Act.put, List.setIfInBounds_toArray, List.set_cons_zero, List.set_cons_succ]
  refine wpAnyH_take (i := 3) (oi := { dst := some 15, op := Op.load 71 (Operand.tmp 14), type := 71, pos := "trip.go:104", after := #[{ on := 2, ground := Ground.data }], guard := none }) (v := mv) rfl (by kernel_rfl) (by kernel_rfl) (by kernel_rfl) (fun _ _ _ h => h) (Or.inl ⟨by rfl, ?_⟩) (by assumption) ?_
  · intro z hz
    have c := (hz.1.cell (p := ⟨tb, 2, none⟩) ltb).trans cm
    go_simp
  try simp only [Act.put, List.setIfInBounds_toArray, List.set_cons_zero, List.set_cons_succ]
  refine wpAnyH_take (i := 4) (oi := { dst := some 16, op := Op.load 59 (Operand.tmp 3), type := 59, pos := "trip.go:104", after := #[], guard := none }) (v := .agg k.toArray) rfl (by kernel_rfl) (by kernel_rfl) (by kernel_rfl) (fun _ _ _ h => h) (yields_loadrow (by rfl) 59 _ (by rfl) w.heap.size (by rfl) k.toArray 59 _ (fun u hu => hu.2.1) Tryz.underlying59 rfl (by rw [List.size_toArray, hk.1]; exact size25)) (by assumption) ?_
  try simp only [Act.put, List.setIfInBounds_toArray, List.set_cons_zero, List.set_cons_succ]
  refine wpAnyH_take (i := 5) (oi := { dst := some 17, op := Op.lookup 71 (Operand.tmp 15) (Operand.tmp 16) true, type := 84, pos := "trip.go:104", after := #[{ on := 3, ground := Ground.data }, { on := 4, ground := Ground.data }], guard := none }) (v := .tuple #[.agg r, .bool ok]) rfl (by kernel_rfl) (by kernel_rfl) (by kernel_rfl) (fun _ _ _ h => h) (yields_lookup (by rfl) 71 _ _ true (by rfl) mv (.agg k.toArray) _ (by rfl) (by rfl) (fun u hu => hrun u hu.1)) (by assumption) ?_
  try simp only [Act.put, List.setIfInBounds_toArray, List.set_cons_zero, List.set_cons_succ]
  refine wpAnyH_take (i := 6) (oi := { dst := some 11, op := Op.move (Operand.tmp 17), type := 84, pos := "trip.go:104", after := #[{ on := 5, ground := Ground.data }], guard := none }) (v := .tuple #[.agg r, .bool ok]) rfl (by kernel_rfl) (by kernel_rfl) (by kernel_rfl) (fun _ _ _ h => h) (Or.inl ⟨by rfl, ?_⟩) (by assumption) ?_
  · intro z hz
    go_simp
  try simp only [Act.put, List.setIfInBounds_toArray, List.set_cons_zero, List.set_cons_succ]
  refine wpAnyH_take (i := 7) (oi := { dst := some 18, op := Op.extract (Operand.tmp 11) 0, type := 83, pos := "trip.go:104", after := #[{ on := 6, ground := Ground.data }], guard := none }) (v := .agg r) rfl (by kernel_rfl) (by kernel_rfl) (by kernel_rfl) (fun _ _ _ h => h) (Or.inl ⟨by rfl, ?_⟩) (by assumption) ?_
  · intro z hz
    go_simp
  try simp only [Act.put, List.setIfInBounds_toArray, List.set_cons_zero, List.set_cons_succ]
  refine wpAnyH_take (i := 8) (oi := { dst := some 19, op := Op.extract (Operand.tmp 11) 1, type := 4, pos := "trip.go:104", after := #[{ on := 6, ground := Ground.data }, { on := 10, ground := Ground.gcOnly Departure.lateStores }], guard := none }) (v := .bool ok) rfl (by kernel_rfl) (by kernel_rfl) (by kernel_rfl) (fun _ _ _ h => h) (Or.inl ⟨by rfl, ?_⟩) (by assumption) ?_
  · intro z hz
    go_simp
  try simp only [Act.put, List.setIfInBounds_toArray, List.set_cons_zero, List.set_cons_succ]
  refine wpAnyH_ready (rs := [9]) (by kernel_rfl) (by simp) ?_
  refine AllReadyH.cons (o := { dst := some 6, op := Op.alloc 83, type := 0, pos := "trip.go:104", after := #[], guard := none }) rfl (fun K hK => ?_) AllReadyH.nil
  rw [if_pos (by rfl)]
  refine wp_allocz 83 (by rfl) Z40 23 zero40 ?_
  refine hK.out _ _ (⟨hS.1.alloc hS.1.size _, (Below.heap_alloc _ _ _ (by show w.heap.size < ((w.alloc (.cells k.toArray 59)).alloc (.cells Z40 83)).heap.size; simp <;> omega)).trans hS.2.1, (Below.heap_alloc _ _ _ (by show w.heap.size + 1 < ((w.alloc (.cells k.toArray 59)).alloc (.cells Z40 83)).heap.size; simp <;> omega)).trans hS.2.2.1, by have := hS.2.2.2; simp <;> omega⟩) ?_
  clear hK K
  intro hS
  try simp only [Act.put, List.setIfInBounds_toArray, List.set_cons_zero, List.set_cons_succ]
  refine wpAnyH_ready (rs := [10]) (by kernel_rfl) (by simp) ?_
  refine AllReadyH.cons (o := { dst := none, op := Op.store 83 (Operand.tmp 6) (Operand.tmp 18), type := 0, pos := "trip.go:104", after := #[{ on := 9, ground := Ground.data }, { on := 7, ground := Ground.data }, { on := 0, ground := Ground.phase }, { on := 1, ground := Ground.phase }, { on := 2, ground := Ground.phase }, { on := 3, ground := Ground.phase }, { on := 4, ground := Ground.phase }, { on := 5, ground := Ground.phase }, { on := 6, ground := Ground.phase }, { on := 7, ground := Ground.phase }, { on := 8, ground := Ground.textOnly Departure.lateStores }, { on := 9, ground := Ground.phase }], guard := none }) rfl (fun K hK => ?_) AllReadyH.nil
  rw [if_pos (by rfl)]
  refine wp_storerow 83 _ _ (by rfl) _ (by rfl) Z40 r (by rfl) (heap_last _ _) (by rw [hr]; exact size40) (by rw [hr]; rfl) h1 ?_
  refine hK.out _ _ (⟨Below.setRow hS.1 (by show w.heap.size ≤ ((w.alloc (.cells k.toArray 59)).alloc (.cells Z40 83)).heap.size; simp <;> omega) _, (setRow_other _ _ _ _ (by show w.heap.size ≠ ((w.alloc (.cells k.toArray 59)).alloc (.cells Z40 83)).heap.size; simp <;> omega)).trans hS.2.1, (setRow_other _ _ _ _ (by show w.heap.size + 1 ≠ ((w.alloc (.cells k.toArray 59)).alloc (.cells Z40 83)).heap.size; simp <;> omega)).trans hS.2.2.1, by simp <;> omega⟩) ?_
  clear hK K
  intro hS
  try simp only [Act.put, List.setIfInBounds_toArray, List.set_cons_zero, List.set_cons_succ]
  refine wpAnyH_take (i := 11) (oi := { dst := some 7, op := Op.assign (Operand.tmp 19), type := 4, pos := "trip.go:104", after := #[{ on := 8, ground := Ground.data }, { on := 10, ground := Ground.chain }, { on := 0, ground := Ground.phase }, { on := 1, ground := Ground.phase }, { on := 2, ground := Ground.phase }, { on := 3, ground := Ground.phase }, { on := 4, ground := Ground.phase }, { on := 5, ground := Ground.phase }, { on := 6, ground := Ground.phase }, { on := 7, ground := Ground.phase }, { on := 8, ground := Ground.phase }, { on := 9, ground := Ground.phase }, { on := 10, ground := Ground.phase }], guard := none }) (v := .bool ok) rfl (by kernel_rfl) (by kernel_rfl) (by kernel_rfl) (fun _ _ _ h => h) (Or.inl ⟨by rfl, ?_⟩) (by assumption) ?_
  · intro z hz
    go_simp
  try simp only [Act.put, List.setIfInBounds_toArray, List.set_cons_zero, List.set_cons_succ]
  refine wpAnyH_done (by kernel_rfl) ?_ _
  have h6 : ((((w.alloc (.cells k.toArray 59)).alloc (.cells Z40 83)).drew.alloc (.cells Z40 83)).setRow ((w.alloc (.cells k.toArray 59)).alloc (.cells Z40 83)).drew.heap.size r).heap[((w.alloc (.cells k.toArray 59)).alloc (.cells Z40 83)).drew.heap.size]? = some (.cells r 83 (0, 0)) := setRow_heap _ _ _ _ _ _ (heap_last _ _)
  obtain ⟨s1, s2, s3, s4⟩ := hS
  generalize (((w.alloc (.cells k.toArray 59)).alloc (.cells Z40 83)).drew.alloc (.cells Z40 83)).setRow ((w.alloc (.cells k.toArray 59)).alloc (.cells Z40 83)).drew.heap.size r = W3 at *
  generalize ((w.alloc (.cells k.toArray 59)).alloc (.cells Z40 83)).drew.heap.size = b6 at *
  go_wp2_with (first
    | (refine wpList_loadrow rfl 83 _ (by rfl) b6 (by rfl) r 83 _ h6 Tryz.underlying83 rfl (by rw [hr]; exact size40) ?_)
    | (refine wpList_storerow rfl 83 _ _ (by rfl) (w.heap.size + 1) (by rfl) Z40 r (by rfl) s3 (by rw [hr]; exact size40) (by rw [hr]; rfl) h1 ?_))
  refine bodyPost_ret (v := .tuple #[.agg r, .bool ok]) ?_ rfl (gives_of_eq rfl ?_)
  · exact results_cell (b := w.heap.size + 1) (tt := 83) rfl rfl rfl (setRow_heap _ _ _ _ _ _ s3) Tryz.underlying83 rfl (by rw [hr]; exact size40)
  · exact Below.setRow s1 (by omega) _
end Go.Proofs.YtnooghehmgbemaaGreat
