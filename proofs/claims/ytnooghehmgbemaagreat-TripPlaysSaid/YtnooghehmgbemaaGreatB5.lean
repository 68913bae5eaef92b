/- Trip: Of. -/
import Derived.Test.YtnooghehmgbemaaGreatB4
namespace Go.Proofs.YtnooghehmgbemaaGreat
open Go.RowKit
set_option linter.unusedVariables false
set_option linter.unusedSimpArgs false

set_option maxHeartbeats 2000000 in
theorem of_nil (d : List Value) (hd : Bs 8 d) (w : World) : Calls Tryz.prog 20 #[.pointer none, .agg d.toArray] w (Gives (.tuple #[.agg Z40, .bool false]) w) := by
  go_enter Tryz.func20, Tryz.ntmps20
  go_wp2_with (first
    | (refine wpList_allocz rfl 83 (by rfl) Z40 23 zero40 ?_)
    | (refine wpList_build rfl 83 (by rfl) (.agg Z40) build40 ?_)
    | (refine wpList_storerow rfl 83 _ _ (by rfl) (w.heap.size + 1) (by rfl) Z40 Z40 (by rfl) (heap_last1 w _ _) size40 rfl z40o ?_))
  refine bodyPost_ret (v := .tuple #[.agg Z40, .bool false]) ?_ rfl (gives_of_eq rfl ?_)
  · exact results_cell (b := w.heap.size + 1) (tt := 83) rfl rfl rfl (setRow_heap _ _ _ _ _ _ (heap_last1 w _ _)) Tryz.underlying83 rfl size40
  · exact Below.setRow (((Below.refl _ w).alloc (Nat.le_refl _) _).alloc (by simp) _) (by omega) _

set_option maxRecDepth 20000 in
set_option maxHeartbeats 4000000 in
theorem of_miss (tb : Nat) (mv : Value) (d : List Value) (hd : Bs 8 d) (w : World) (cm : w.cell? ⟨tb, 4, none⟩ = some mv)
    (hrun : ∀ u : World, Below w.heap.size w u → (Instr.lookup 72 mv (.agg d.toArray) true).run Tryz.prog u = .ok (.tuple #[.agg Z25, .bool false]) u) :
    Calls Tryz.prog 20 #[.pointer (some ⟨tb, 0, none⟩), .agg d.toArray] w (Gives (.tuple #[.agg Z40, .bool false]) w) := by
  have ltb : tb < w.heap.size := World.block_lt_of_cell? w _ cm
  have HR := Lib.hid hrun
  clear hrun
  go_enter Tryz.func20, Tryz.ntmps20
  go_wp2_with (first
    | (refine wpList_allocz rfl 83 (by rfl) Z40 23 zero40 ?_)
    | (refine wpList_build rfl 83 (by rfl) (.agg Z40) build40 ?_))
  have hrun := HR.out
  have b2 : Below w.heap.size w ((w.alloc (.cells d.toArray 57)).alloc (.cells Z40 83)) := ((Below.refl _ w).alloc (Nat.le_refl _) _).alloc (by simp) _
  have h3 : ((w.alloc (.cells d.toArray 57)).alloc (.cells Z40 83)).heap[w.heap.size]? = some (.cells d.toArray 57 (0, 0)) := heap_first w _ _
  have h4 : ((w.alloc (.cells d.toArray 57)).alloc (.cells Z40 83)).heap[w.heap.size + 1]? = some (.cells Z40 83 (0, 0)) := heap_last1 w _ _
  refine wp_region_held_drew (S := (fun u => Below w.heap.size w u ∧ u.heap[w.heap.size]? = some (.cells d.toArray 57 (0, 0)) ∧ u.heap[w.heap.size + 1]? = some (.cells Z40 83 (0, 0)) ∧ w.heap.size + 2 ≤ u.heap.size)) (by kernel_rfl) (⟨b2.drew, h3, h4, by show w.heap.size + 2 ≤ _; simp⟩) ?_
  intro hS
  refine wpAnyH_take (i := 0) (oi := { dst := some 12, op := Op.move (Operand.tmp 0), type := 24, pos := "trip.go:113", after := #[], guard := none }) (v := .pointer (some ⟨tb, 0, none⟩)) rfl (by kernel_rfl) (by kernel_rfl) (by kernel_rfl) (fun _ _ _ h => h) (Or.inl ⟨by rfl, ?_⟩) (by assumption) ?_
  · intro z hz
    go_simp
  try simp only [Act.put, List.setIfInBounds_toArray, List.set_cons_zero, List.set_cons_succ]
  refine wpAnyH_take (i := 1) (oi := { dst := some 13, op := Op.nilCheck (Operand.tmp 12), type := 0, pos := "trip.go:113", after := #[{ on := 0, ground := Ground.data }], guard := none }) (v := .pointer (some ⟨tb, 0, none⟩)) rfl (by kernel_rfl) (by kernel_rfl) (by kernel_rfl) (fun _ _ _ h => h) (Or.inl ⟨by rfl, ?_⟩) (by assumption) ?_
  · intro z hz
    go_simp
  try simp only [Act.put, List.setIfInBounds_toArray, List.set_cons_zero, List.set_cons_succ]
  refine wpAnyH_take (i := 2) (oi := { dst := some 14, op := Op.fieldAddr 75 (Operand.tmp 13) 4, type := 0, pos := "trip.go:113", after := #[{ on := 1, ground := Ground.data }], guard := none }) (v := .pointer (some ⟨tb, 4, none⟩)) rfl (by kernel_rfl) (by kernel_rfl) (by kernel_rfl) (fun _ _ _ h => h) (Or.inl ⟨by rfl, ?_⟩) (by assumption) ?_
  · intro z hz
    go_simp
  try simp only [Act.put, List.setIfInBounds_toArray, List.set_cons_zero, List.set_cons_succ]
  refine wpAnyH_take (i := 3) (oi := { dst := some 15, op := Op.load 72 (Operand.tmp 14), type := 72, pos := "trip.go:113", after := #[{ on := 2, ground := Ground.data }], guard := none }) (v := mv) rfl (by kernel_rfl) (by kernel_rfl) (by kernel_rfl) (fun _ _ _ h => h) (Or.inl ⟨by rfl, ?_⟩) (by assumption) ?_
  · intro z hz
    have c := (hz.1.cell (p := ⟨tb, 4, none⟩) ltb).trans cm
    go_simp
  try simp only [Act.put, List.setIfInBounds_toArray, List.set_cons_zero, List.set_cons_succ]
  refine wpAnyH_take (i := 4) (oi := { dst := some 16, op := Op.load 57 (Operand.tmp 3), type := 57, pos := "trip.go:113", after := #[], guard := none }) (v := .agg d.toArray) rfl (by kernel_rfl) (by kernel_rfl) (by kernel_rfl) (fun _ _ _ h => h) (yields_loadrow (by rfl) 57 _ (by rfl) w.heap.size (by rfl) d.toArray 57 _ (fun u hu => hu.2.1) Tryz.underlying57 rfl (by rw [List.size_toArray, hd.1]; exact size23)) (by assumption) ?_
  try simp only [Act.put, List.setIfInBounds_toArray, List.set_cons_zero, List.set_cons_succ]
  refine wpAnyH_take (i := 5) (oi := { dst := some 17, op := Op.lookup 72 (Operand.tmp 15) (Operand.tmp 16) true, type := 88, pos := "trip.go:113", after := #[{ on := 3, ground := Ground.data }, { on := 4, ground := Ground.data }], guard := none }) (v := .tuple #[.agg Z25, .bool false]) rfl (by kernel_rfl) (by kernel_rfl) (by kernel_rfl) (fun _ _ _ h => h) (yields_lookup (by rfl) 72 _ _ true (by rfl) mv (.agg d.toArray) _ (by rfl) (by rfl) (fun u hu => hrun u hu.1)) (by assumption) ?_
  try simp only [Act.put, List.setIfInBounds_toArray, List.set_cons_zero, List.set_cons_succ]
  refine wpAnyH_take (i := 6) (oi := { dst := some 11, op := Op.move (Operand.tmp 17), type := 88, pos := "trip.go:113", after := #[{ on := 5, ground := Ground.data }], guard := none }) (v := .tuple #[.agg Z25, .bool false]) rfl (by kernel_rfl) (by kernel_rfl) (by kernel_rfl) (fun _ _ _ h => h) (Or.inl ⟨by rfl, ?_⟩) (by assumption) ?_
  · intro z hz
    go_simp
  try simp only [Act.put, List.setIfInBounds_toArray, List.set_cons_zero, List.set_cons_succ]
  refine wpAnyH_take (i := 7) (oi := { dst := some 18, op := Op.extract (Operand.tmp 11) 0, type := 59, pos := "trip.go:113", after := #[{ on := 6, ground := Ground.data }], guard := none }) (v := .agg Z25) rfl (by kernel_rfl) (by kernel_rfl) (by kernel_rfl) (fun _ _ _ h => h) (Or.inl ⟨by rfl, ?_⟩) (by assumption) ?_
  · intro z hz
    go_simp
  try simp only [Act.put, List.setIfInBounds_toArray, List.set_cons_zero, List.set_cons_succ]
  refine wpAnyH_take (i := 8) (oi := { dst := some 19, op := Op.extract (Operand.tmp 11) 1, type := 4, pos := "trip.go:113", after := #[{ on := 6, ground := Ground.data }, { on := 10, ground := Ground.gcOnly Departure.lateStores }], guard := none }) (v := .bool false) rfl (by kernel_rfl) (by kernel_rfl) (by kernel_rfl) (fun _ _ _ h => h) (Or.inl ⟨by rfl, ?_⟩) (by assumption) ?_
  · intro z hz
    go_simp
  try simp only [Act.put, List.setIfInBounds_toArray, List.set_cons_zero, List.set_cons_succ]
  refine wpAnyH_ready (rs := [9]) (by kernel_rfl) (by simp) ?_
  refine AllReadyH.cons (o := { dst := some 6, op := Op.alloc 59, type := 0, pos := "trip.go:113", after := #[], guard := none }) rfl (fun K hK => ?_) AllReadyH.nil
  rw [if_pos (by rfl)]
  refine wp_allocz 59 (by rfl) Z25 16 zero25 ?_
  refine hK.out _ _ (⟨hS.1.alloc hS.1.size _, (Below.heap_alloc _ _ _ (by show w.heap.size < ((w.alloc (.cells d.toArray 57)).alloc (.cells Z40 83)).heap.size; simp <;> omega)).trans hS.2.1, (Below.heap_alloc _ _ _ (by show w.heap.size + 1 < ((w.alloc (.cells d.toArray 57)).alloc (.cells Z40 83)).heap.size; simp <;> omega)).trans hS.2.2.1, by have := hS.2.2.2; simp <;> omega⟩) ?_
  clear hK K
  intro hS
  try simp only [Act.put, List.setIfInBounds_toArray, List.set_cons_zero, List.set_cons_succ]
  refine wpAnyH_ready (rs := [10]) (by kernel_rfl) (by simp) ?_
  refine AllReadyH.cons (o := { dst := none, op := Op.store 59 (Operand.tmp 6) (Operand.tmp 18), type := 0, pos := "trip.go:113", after := #[{ on := 9, ground := Ground.data }, { on := 7, ground := Ground.data }, { on := 0, ground := Ground.phase }, { on := 1, ground := Ground.phase }, { on := 2, ground := Ground.phase }, { on := 3, ground := Ground.phase }, { on := 4, ground := Ground.phase }, { on := 5, ground := Ground.phase }, { on := 6, ground := Ground.phase }, { on := 7, ground := Ground.phase }, { on := 8, ground := Ground.textOnly Departure.lateStores }, { on := 9, ground := Ground.phase }], guard := none }) rfl (fun K hK => ?_) AllReadyH.nil
  rw [if_pos (by rfl)]
  refine wp_storerow 59 _ _ (by rfl) _ (by rfl) Z25 Z25 (by rfl) (heap_last _ _) size25 rfl z25o ?_
  refine hK.out _ _ (⟨Below.setRow hS.1 (by show w.heap.size ≤ ((w.alloc (.cells d.toArray 57)).alloc (.cells Z40 83)).heap.size; simp <;> omega) _, (setRow_other _ _ _ _ (by show w.heap.size ≠ ((w.alloc (.cells d.toArray 57)).alloc (.cells Z40 83)).heap.size; simp <;> omega)).trans hS.2.1, (setRow_other _ _ _ _ (by show w.heap.size + 1 ≠ ((w.alloc (.cells d.toArray 57)).alloc (.cells Z40 83)).heap.size; simp <;> omega)).trans hS.2.2.1, by simp <;> omega⟩) ?_
  clear hK K
  intro hS
  try simp only [Act.put, List.setIfInBounds_toArray, List.set_cons_zero, List.set_cons_succ]
  refine wpAnyH_take (i := 11) (oi := { dst := some 7, op := Op.assign (Operand.tmp 19), type := 4, pos := "trip.go:113", after := #[{ on := 8, ground := Ground.data }, { on := 10, ground := Ground.chain }, { on := 0, ground := Ground.phase }, { on := 1, ground := Ground.phase }, { on := 2, ground := Ground.phase }, { on := 3, ground := Ground.phase }, { on := 4, ground := Ground.phase }, { on := 5, ground := Ground.phase }, { on := 6, ground := Ground.phase }, { on := 7, ground := Ground.phase }, { on := 8, ground := Ground.phase }, { on := 9, ground := Ground.phase }, { on := 10, ground := Ground.phase }], guard := none }) (v := .bool false) rfl (by kernel_rfl) (by kernel_rfl) (by kernel_rfl) (fun _ _ _ h => h) (Or.inl ⟨by rfl, ?_⟩) (by assumption) ?_
  · intro z hz
    go_simp
  try simp only [Act.put, List.setIfInBounds_toArray, List.set_cons_zero, List.set_cons_succ]
  refine wpAnyH_done (by kernel_rfl) ?_ _
  obtain ⟨s1, s2, s3, s4⟩ := hS
  generalize (((w.alloc (.cells d.toArray 57)).alloc (.cells Z40 83)).drew.alloc (.cells Z25 59)).setRow ((w.alloc (.cells d.toArray 57)).alloc (.cells Z40 83)).drew.heap.size Z25 = W3 at *
  generalize ((w.alloc (.cells d.toArray 57)).alloc (.cells Z40 83)).drew.heap.size = b6 at *
  go_wp2_with (first
    | (refine wpList_build rfl 83 (by rfl) (.agg Z40) build40 ?_)
    | (refine wpList_storerow rfl 83 _ _ (by rfl) (w.heap.size + 1) (by rfl) Z40 Z40 (by rfl) s3 size40 rfl z40o ?_))
  refine bodyPost_ret (v := .tuple #[.agg Z40, .bool false]) ?_ rfl (gives_of_eq rfl ?_)
  · exact results_cell (b := w.heap.size + 1) (tt := 83) rfl rfl rfl (setRow_heap _ _ _ _ _ _ s3) Tryz.underlying83 rfl size40
  · exact Below.setRow s1 (by omega) _

set_option maxRecDepth 20000 in
set_option maxHeartbeats 4000000 in
theorem of_hit (tb : Nat) (mv mt : Value) (d j : List Value) (hd : Bs 8 d) (hj : Bs 16 j) (r : Array Value) (w : World) (cm : w.cell? ⟨tb, 4, none⟩ = some mv) (ct : w.cell? ⟨tb, 2, none⟩ = some mt) (hr : r.size = 23) (h1 : r.all (·.oneCell') = true)
    (hrun : ∀ u : World, Below w.heap.size w u → (Instr.lookup 72 mv (.agg d.toArray) true).run Tryz.prog u = .ok (.tuple #[.agg j.toArray, .bool true]) u)
    (hrun2 : ∀ u : World, Below w.heap.size w u → (Instr.lookup 71 mt (.agg j.toArray) false).run Tryz.prog u = .ok (.agg r) u) :
    Calls Tryz.prog 20 #[.pointer (some ⟨tb, 0, none⟩), .agg d.toArray] w (Gives (.tuple #[.agg r, .bool true]) w) := by
  have HR2 := Lib.hid hrun2
  clear hrun2
  have ltb : tb < w.heap.size := World.block_lt_of_cell? w _ cm
  have HR := Lib.hid hrun
  clear hrun
  go_enter Tryz.func20, Tryz.ntmps20
  go_wp2_with (first
    | (refine wpList_allocz rfl 83 (by rfl) Z40 23 zero40 ?_)
    | (refine wpList_build rfl 83 (by rfl) (.agg Z40) build40 ?_))
  have hrun := HR.out
  have b2 : Below w.heap.size w ((w.alloc (.cells d.toArray 57)).alloc (.cells Z40 83)) := ((Below.refl _ w).alloc (Nat.le_refl _) _).alloc (by simp) _
  have h3 : ((w.alloc (.cells d.toArray 57)).alloc (.cells Z40 83)).heap[w.heap.size]? = some (.cells d.toArray 57 (0, 0)) := heap_first w _ _
  have h4 : ((w.alloc (.cells d.toArray 57)).alloc (.cells Z40 83)).heap[w.heap.size + 1]? = some (.cells Z40 83 (0, 0)) := heap_last1 w _ _
  refine wp_region_held_drew (S := (fun u => Below w.heap.size w u ∧ u.heap[w.heap.size]? = some (.cells d.toArray 57 (0, 0)) ∧ u.heap[w.heap.size + 1]? = some (.cells Z40 83 (0, 0)) ∧ w.heap.size + 2 ≤ u.heap.size)) (by kernel_rfl) (⟨b2.drew, h3, h4, by show w.heap.size + 2 ≤ _; simp⟩) ?_
  intro hS
  refine wpAnyH_take (i := 0) (oi := { dst := some 12, op := Op.move (Operand.tmp 0), type := 24, pos := "trip.go:113", after := #[], guard := none }) (v := .pointer (some ⟨tb, 0, none⟩)) rfl (by kernel_rfl) (by kernel_rfl) (by kernel_rfl) (fun _ _ _ h => h) (Or.inl ⟨by rfl, ?_⟩) (by assumption) ?_
  · intro z hz
    go_simp
  try simp only [Act.put, List.setIfInBounds_toArray, List.set_cons_zero, List.set_cons_succ]
  refine wpAnyH_take (i := 1) (oi := { dst := some 13, op := Op.nilCheck (Operand.tmp 12), type := 0, pos := "trip.go:113", after := #[{ on := 0, ground := Ground.data }], guard := none }) (v := .pointer (some ⟨tb, 0, none⟩)) rfl (by kernel_rfl) (by kernel_rfl) (by kernel_rfl) (fun _ _ _ h => h) (Or.inl ⟨by rfl, ?_⟩) (by assumption) ?_
  · intro z hz
    go_simp
  try simp only [Act.put, List.setIfInBounds_toArray, List.set_cons_zero, List.set_cons_succ]
  refine wpAnyH_take (i := 2) (oi := { dst := some 14, op := Op.fieldAddr 75 (Operand.tmp 13) 4, type := 0, pos := "trip.go:113", after := #[{ on := 1, ground := Ground.data }], guard := none }) (v := .pointer (some ⟨tb, 4, none⟩)) rfl (by kernel_rfl) (by kernel_rfl) (by kernel_rfl) (fun _ _ _ h => h) (Or.inl ⟨by rfl, ?_⟩) (by assumption) ?_
  · intro z hz
    go_simp
  try simp only [Act.put, List.setIfInBounds_toArray, List.set_cons_zero, List.set_cons_succ]
  refine wpAnyH_take (i := 3) (oi := { dst := some 15, op := Op.load 72 (Operand.tmp 14), type := 72, pos := "trip.go:113", after := #[{ on := 2, ground := Ground.data }], guard := none }) (v := mv) rfl (by kernel_rfl) (by kernel_rfl) (by kernel_rfl) (fun _ _ _ h => h) (Or.inl ⟨by rfl, ?_⟩) (by assumption) ?_
  · intro z hz
    have c := (hz.1.cell (p := ⟨tb, 4, none⟩) ltb).trans cm
    go_simp
  try simp only [Act.put, List.setIfInBounds_toArray, List.set_cons_zero, List.set_cons_succ]
  refine wpAnyH_take (i := 4) (oi := { dst := some 16, op := Op.load 57 (Operand.tmp 3), type := 57, pos := "trip.go:113", after := #[], guard := none }) (v := .agg d.toArray) rfl (by kernel_rfl) (by kernel_rfl) (by kernel_rfl) (fun _ _ _ h => h) (yields_loadrow (by rfl) 57 _ (by rfl) w.heap.size (by rfl) d.toArray 57 _ (fun u hu => hu.2.1) Tryz.underlying57 rfl (by rw [List.size_toArray, hd.1]; exact size23)) (by assumption) ?_
  try simp only [Act.put, List.setIfInBounds_toArray, List.set_cons_zero, List.set_cons_succ]
  refine wpAnyH_take (i := 5) (oi := { dst := some 17, op := Op.lookup 72 (Operand.tmp 15) (Operand.tmp 16) true, type := 88, pos := "trip.go:113", after := #[{ on := 3, ground := Ground.data }, { on := 4, ground := Ground.data }], guard := none }) (v := .tuple #[.agg j.toArray, .bool true]) rfl (by kernel_rfl) (by kernel_rfl) (by kernel_rfl) (fun _ _ _ h => h) (yields_lookup (by rfl) 72 _ _ true (by rfl) mv (.agg d.toArray) _ (by rfl) (by rfl) (fun u hu => hrun u hu.1)) (by assumption) ?_
  try simp only [Act.put, List.setIfInBounds_toArray, List.set_cons_zero, List.set_cons_succ]
  refine wpAnyH_take (i := 6) (oi := { dst := some 11, op := Op.move (Operand.tmp 17), type := 88, pos := "trip.go:113", after := #[{ on := 5, ground := Ground.data }], guard := none }) (v := .tuple #[.agg j.toArray, .bool true]) rfl (by kernel_rfl) (by kernel_rfl) (by kernel_rfl) (fun _ _ _ h => h) (Or.inl ⟨by rfl, ?_⟩) (by assumption) ?_
  · intro z hz
    go_simp
  try simp only [Act.put, List.setIfInBounds_toArray, List.set_cons_zero, List.set_cons_succ]
  refine wpAnyH_take (i := 7) (oi := { dst := some 18, op := Op.extract (Operand.tmp 11) 0, type := 59, pos := "trip.go:113", after := #[{ on := 6, ground := Ground.data }], guard := none }) (v := .agg j.toArray) rfl (by kernel_rfl) (by kernel_rfl) (by kernel_rfl) (fun _ _ _ h => h) (Or.inl ⟨by rfl, ?_⟩) (by assumption) ?_
  · intro z hz
    go_simp
  try simp only [Act.put, List.setIfInBounds_toArray, List.set_cons_zero, List.set_cons_succ]
  refine wpAnyH_take (i := 8) (oi := { dst := some 19, op := Op.extract (Operand.tmp 11) 1, type := 4, pos := "trip.go:113", after := #[{ on := 6, ground := Ground.data }, { on := 10, ground := Ground.gcOnly Departure.lateStores }], guard := none }) (v := .bool true) rfl (by kernel_rfl) (by kernel_rfl) (by kernel_rfl) (fun _ _ _ h => h) (Or.inl ⟨by rfl, ?_⟩) (by assumption) ?_
  · intro z hz
    go_simp
  try simp only [Act.put, List.setIfInBounds_toArray, List.set_cons_zero, List.set_cons_succ]
  refine wpAnyH_ready (rs := [9]) (by kernel_rfl) (by simp) ?_
  refine AllReadyH.cons (o := { dst := some 6, op := Op.alloc 59, type := 0, pos := "trip.go:113", after := #[], guard := none }) rfl (fun K hK => ?_) AllReadyH.nil
  rw [if_pos (by rfl)]
  refine wp_allocz 59 (by rfl) Z25 16 zero25 ?_
  refine hK.out _ _ (⟨hS.1.alloc hS.1.size _, (Below.heap_alloc _ _ _ (by show w.heap.size < ((w.alloc (.cells d.toArray 57)).alloc (.cells Z40 83)).heap.size; simp <;> omega)).trans hS.2.1, (Below.heap_alloc _ _ _ (by show w.heap.size + 1 < ((w.alloc (.cells d.toArray 57)).alloc (.cells Z40 83)).heap.size; simp <;> omega)).trans hS.2.2.1, by have := hS.2.2.2; simp <;> omega⟩) ?_
  clear hK K
  intro hS
  try simp only [Act.put, List.setIfInBounds_toArray, List.set_cons_zero, List.set_cons_succ]
  refine wpAnyH_ready (rs := [10]) (by kernel_rfl) (by simp) ?_
  refine AllReadyH.cons (o := { dst := none, op := Op.store 59 (Operand.tmp 6) (Operand.tmp 18), type := 0, pos := "trip.go:113", after := #[{ on := 9, ground := Ground.data }, { on := 7, ground := Ground.data }, { on := 0, ground := Ground.phase }, { on := 1, ground := Ground.phase }, { on := 2, ground := Ground.phase }, { on := 3, ground := Ground.phase }, { on := 4, ground := Ground.phase }, { on := 5, ground := Ground.phase }, { on := 6, ground := Ground.phase }, { on := 7, ground := Ground.phase }, { on := 8, ground := Ground.textOnly Departure.lateStores }, { on := 9, ground := Ground.phase }], guard := none }) rfl (fun K hK => ?_) AllReadyH.nil
  rw [if_pos (by rfl)]
  refine wp_storerow 59 _ _ (by rfl) _ (by rfl) Z25 j.toArray (by rfl) (heap_last _ _) (by rw [List.size_toArray, hj.1]; exact size25) (z25s.trans (by rw [List.size_toArray, hj.1])) (Array.all_eq_true_iff_forall_mem.2 (fun v hv => hj.one v (by simpa using hv))) ?_
  refine hK.out _ _ (⟨Below.setRow hS.1 (by show w.heap.size ≤ ((w.alloc (.cells d.toArray 57)).alloc (.cells Z40 83)).heap.size; simp <;> omega) _, (setRow_other _ _ _ _ (by show w.heap.size ≠ ((w.alloc (.cells d.toArray 57)).alloc (.cells Z40 83)).heap.size; simp <;> omega)).trans hS.2.1, (setRow_other _ _ _ _ (by show w.heap.size + 1 ≠ ((w.alloc (.cells d.toArray 57)).alloc (.cells Z40 83)).heap.size; simp <;> omega)).trans hS.2.2.1, by simp <;> omega⟩) ?_
  clear hK K
  intro hS
  try simp only [Act.put, List.setIfInBounds_toArray, List.set_cons_zero, List.set_cons_succ]
  refine wpAnyH_take (i := 11) (oi := { dst := some 7, op := Op.assign (Operand.tmp 19), type := 4, pos := "trip.go:113", after := #[{ on := 8, ground := Ground.data }, { on := 10, ground := Ground.chain }, { on := 0, ground := Ground.phase }, { on := 1, ground := Ground.phase }, { on := 2, ground := Ground.phase }, { on := 3, ground := Ground.phase }, { on := 4, ground := Ground.phase }, { on := 5, ground := Ground.phase }, { on := 6, ground := Ground.phase }, { on := 7, ground := Ground.phase }, { on := 8, ground := Ground.phase }, { on := 9, ground := Ground.phase }, { on := 10, ground := Ground.phase }], guard := none }) (v := .bool true) rfl (by kernel_rfl) (by kernel_rfl) (by kernel_rfl) (fun _ _ _ h => h) (Or.inl ⟨by rfl, ?_⟩) (by assumption) ?_
  · intro z hz
    go_simp
  try simp only [Act.put, List.setIfInBounds_toArray, List.set_cons_zero, List.set_cons_succ]
  refine wpAnyH_done (by kernel_rfl) ?_ _
  have h6 : ((((w.alloc (.cells d.toArray 57)).alloc (.cells Z40 83)).drew.alloc (.cells Z25 59)).setRow ((w.alloc (.cells d.toArray 57)).alloc (.cells Z40 83)).drew.heap.size j.toArray).heap[((w.alloc (.cells d.toArray 57)).alloc (.cells Z40 83)).drew.heap.size]? = some (.cells j.toArray 59 (0, 0)) := setRow_heap _ _ _ _ _ _ (heap_last _ _)
  have hb6 : ((w.alloc (.cells d.toArray 57)).alloc (.cells Z40 83)).drew.heap.size ≠ w.heap.size + 1 := by show ((w.alloc (.cells d.toArray 57)).alloc (.cells Z40 83)).heap.size ≠ _; simp
  obtain ⟨s1, s2, s3, s4⟩ := hS
  generalize (((w.alloc (.cells d.toArray 57)).alloc (.cells Z40 83)).drew.alloc (.cells Z25 59)).setRow ((w.alloc (.cells d.toArray 57)).alloc (.cells Z40 83)).drew.heap.size j.toArray = W3 at *
  generalize ((w.alloc (.cells d.toArray 57)).alloc (.cells Z40 83)).drew.heap.size = b6 at *
  go_wp2_with fail
  have hrun2 := HR2.out
  refine wp_region_held_drew (S := (fun u => Below w.heap.size w u ∧ u.heap[b6]? = some (.cells j.toArray 59 (0, 0)) ∧ ∃ cs, cs.size = 23 ∧ u.heap[w.heap.size + 1]? = some (.cells cs 83 (0, 0)))) (by kernel_rfl) (⟨s1.drew, h6, Z40, rfl, s3⟩) ?_
  intro hS
  refine wpAnyH_take (i := 0) (oi := { dst := some 23, op := Op.move (Operand.tmp 0), type := 24, pos := "trip.go:117", after := #[], guard := none }) (v := .pointer (some ⟨tb, 0, none⟩)) rfl (by kernel_rfl) (by kernel_rfl) (by kernel_rfl) (fun _ _ _ h => h) (Or.inl ⟨by rfl, ?_⟩) (by assumption) ?_
  · intro z hz
    go_simp
  try simp only [Act.put, List.setIfInBounds_toArray, List.set_cons_zero, List.set_cons_succ]
  refine wpAnyH_take (i := 1) (oi := { dst := some 24, op := Op.nilCheck (Operand.tmp 23), type := 0, pos := "trip.go:117", after := #[{ on := 0, ground := Ground.data }], guard := none }) (v := .pointer (some ⟨tb, 0, none⟩)) rfl (by kernel_rfl) (by kernel_rfl) (by kernel_rfl) (fun _ _ _ h => h) (Or.inl ⟨by rfl, ?_⟩) (by assumption) ?_
  · intro z hz
    go_simp
  try simp only [Act.put, List.setIfInBounds_toArray, List.set_cons_zero, List.set_cons_succ]
  refine wpAnyH_take (i := 2) (oi := { dst := some 25, op := Op.fieldAddr 75 (Operand.tmp 24) 2, type := 0, pos := "trip.go:117", after := #[{ on := 1, ground := Ground.data }], guard := none }) (v := .pointer (some ⟨tb, 2, none⟩)) rfl (by kernel_rfl) (by kernel_rfl) (by kernel_rfl) (fun _ _ _ h => h) (Or.inl ⟨by rfl, ?_⟩) (by assumption) ?_
  · intro z hz
    go_simp
  try simp only [Act.put, List.setIfInBounds_toArray, List.set_cons_zero, List.set_cons_succ]
  refine wpAnyH_take (i := 3) (oi := { dst := some 26, op := Op.load 71 (Operand.tmp 25), type := 71, pos := "trip.go:117", after := #[{ on := 2, ground := Ground.data }], guard := none }) (v := mt) rfl (by kernel_rfl) (by kernel_rfl) (by kernel_rfl) (fun _ _ _ h => h) (Or.inl ⟨by rfl, ?_⟩) (by assumption) ?_
  · intro z hz
    have c := (hz.1.cell (p := ⟨tb, 2, none⟩) ltb).trans ct
    go_simp
  try simp only [Act.put, List.setIfInBounds_toArray, List.set_cons_zero, List.set_cons_succ]
  refine wpAnyH_take (i := 4) (oi := { dst := some 27, op := Op.load 59 (Operand.tmp 6), type := 59, pos := "trip.go:117", after := #[], guard := none }) (v := .agg j.toArray) rfl (by kernel_rfl) (by kernel_rfl) (by kernel_rfl) (fun _ _ _ h => h) (yields_loadrow (by rfl) 59 _ (by rfl) b6 (by rfl) j.toArray 59 _ (fun u hu => hu.2.1) Tryz.underlying59 rfl (by rw [List.size_toArray, hj.1]; exact size25)) (by assumption) ?_
  try simp only [Act.put, List.setIfInBounds_toArray, List.set_cons_zero, List.set_cons_succ]
  refine wpAnyH_take (i := 5) (oi := { dst := some 28, op := Op.lookup 71 (Operand.tmp 26) (Operand.tmp 27) false, type := 83, pos := "trip.go:117", after := #[{ on := 3, ground := Ground.data }, { on := 4, ground := Ground.data }], guard := none }) (v := .agg r) rfl (by kernel_rfl) (by kernel_rfl) (by kernel_rfl) (fun _ _ _ h => h) (yields_lookup (by rfl) 71 _ _ false (by rfl) mt (.agg j.toArray) _ (by rfl) (by rfl) (fun u hu => hrun2 u hu.1)) (by assumption) ?_
  try simp only [Act.put, List.setIfInBounds_toArray, List.set_cons_zero, List.set_cons_succ]
  refine wpAnyH_ready (rs := [6]) (by kernel_rfl) (by simp) ?_
  refine AllReadyH.cons (o := { dst := none, op := Op.store 83 (Operand.tmp 4) (Operand.tmp 28), type := 0, pos := "trip.go:117", after := #[{ on := 5, ground := Ground.data }, { on := 0, ground := Ground.phase }, { on := 1, ground := Ground.phase }, { on := 2, ground := Ground.phase }, { on := 3, ground := Ground.phase }, { on := 4, ground := Ground.phase }, { on := 5, ground := Ground.phase }], guard := none }) rfl (fun K hK => ?_) AllReadyH.nil
  rw [if_pos (by rfl)]
  refine wp_storerow 83 _ _ (by rfl) (w.heap.size + 1) (by rfl) Z40 r (by rfl) s3 (by rw [hr]; exact size40) (by rw [hr]; rfl) h1 ?_
  refine hK.out _ _ (⟨Below.setRow hS.1 (by omega) _, (setRow_other _ _ _ _ hb6).trans hS.2.1, r, hr, setRow_heap _ _ _ _ _ _ s3⟩) ?_
  clear hK K
  intro hS
  try simp only [Act.put, List.setIfInBounds_toArray, List.set_cons_zero, List.set_cons_succ]
  refine wpAnyH_take (i := 7) (oi := { dst := some 5, op := Op.assign (Operand.const (Value.bool true)), type := 4, pos := "trip.go:117", after := #[{ on := 6, ground := Ground.chain }, { on := 0, ground := Ground.phase }, { on := 1, ground := Ground.phase }, { on := 2, ground := Ground.phase }, { on := 3, ground := Ground.phase }, { on := 4, ground := Ground.phase }, { on := 5, ground := Ground.phase }, { on := 6, ground := Ground.phase }], guard := none }) (v := .bool true) rfl (by kernel_rfl) (by kernel_rfl) (by kernel_rfl) (fun _ _ _ h => h) (Or.inl ⟨by rfl, ?_⟩) (by assumption) ?_
  · intro z hz
    go_simp
  try simp only [Act.put, List.setIfInBounds_toArray, List.set_cons_zero, List.set_cons_succ]
  refine wpAnyH_done (by kernel_rfl) ?_ _
  obtain ⟨u1, u2, cs, u3, u4⟩ := hS
  have u5 := setRow_heap W3.drew (w.heap.size + 1) Z40 r 83 (0, 0) s3
  generalize W3.drew.setRow (w.heap.size + 1) r = W4 at *
  go_wp2_with fail
  refine bodyPost_ret (v := .tuple #[.agg r, .bool true]) ?_ rfl (gives_of_eq rfl u1)
  exact results_cell (b := w.heap.size + 1) (tt := 83) rfl rfl rfl u5 Tryz.underlying83 rfl (by rw [hr]; exact size40)
end Go.Proofs.YtnooghehmgbemaaGreat
