/- Trip: Assign, the ways that refuse. -/
import Derived.Test.YtnooghehmgbemaaGreatB11
namespace Go.Proofs.YtnooghehmgbemaaGreat
open Go.RowKit
set_option linter.unusedVariables false
set_option linter.unusedSimpArgs false

set_option maxHeartbeats 2000000 in
theorem assign_nil (tick : Int) (k : List Value) (hk : Bs 16 k) (w : World) : Calls Tryz.prog 14 #[.pointer none, .int .i64 tick, .agg k.toArray] w (Gives (.int .i64 2) w) := by
  go_enter Tryz.func14, Tryz.ntmps14
  go_wp2_with fail
  refine (at_nil tick _).mono ?_
  rintro e w' ⟨rfl, rfl⟩
  go_wp2_with fail
  go_ret
  exact gives_of_eq rfl ((Below.refl _ w).alloc (Nat.le_refl _) _)
set_option maxHeartbeats 2000000 in
theorem assign_zero (tb : Nat) (tick : Int) (k : List Value) (hk : Bs 16 k) (w : World) (cm : w.cell? ⟨tb, 2, none⟩ = some (.map none)) : Calls Tryz.prog 14 #[.pointer (some ⟨tb, 0, none⟩), .int .i64 tick, .agg k.toArray] w (Gives (.int .i64 2) w) := by
  have ltb : tb < w.heap.size := World.block_lt_of_cell? w _ cm
  go_enter Tryz.func14, Tryz.ntmps14
  go_wp2_with fail
  have b1 : Below w.heap.size w (w.alloc (.cells k.toArray 59)) := (Below.refl _ w).alloc (Nat.le_refl _) _
  refine (at_zero tb tick _ ((b1.cell (p := ⟨tb, 2, none⟩) ltb).trans cm)).mono ?_
  rintro e w' ⟨rfl, rfl⟩
  go_wp2_with fail
  go_ret
  exact gives_of_eq rfl b1
section
variable {F : Nat → Prop} {w : World} {tb b1 b2 b3 : Nat} {ov : Value} {q : St}
set_option maxHeartbeats 2000000 in
theorem assign_err (h : TripsIn F w tb b1 b2 b3 ov q) (tick : Int) (k : List Value) (hk : Bs 16 k) (he : atE tick q.clock ≠ 0) : Calls Tryz.prog 14 #[.pointer (some ⟨tb, 0, none⟩), .int .i64 tick, .agg k.toArray] w (Gives (.int .i64 (atE tick q.clock)) w) := by
  have ltb := h.tb_lt
  obtain ⟨c0, c1, c2, c3, c4⟩ := h.c
  go_enter Tryz.func14, Tryz.ntmps14
  go_wp2_with fail
  have bb : Below w.heap.size w (w.alloc (.cells k.toArray 59)) := (Below.refl _ w).alloc (Nat.le_refl _) _
  refine (at_real tb b1 tick q.clock _ ((bb.cell (p := ⟨tb, 2, none⟩) ltb).trans c2) ((bb.cell (p := ⟨tb, 0, none⟩) ltb).trans c0)).mono ?_
  rintro e w' ⟨rfl, rfl⟩
  have hb : (atE tick q.clock != 0) = true := by simpa using he
  generalize atE tick q.clock = E at *
  go_wp2_with fail
  go_ret
  exact gives_of_eq rfl bb
set_option maxRecDepth 20000 in
set_option maxHeartbeats 8000000 in
theorem assign_twice (h : TripsIn F w tb b1 b2 b3 ov q) (tick : Int) (k : List Value) (hk : Bs 16 k) (he : atE tick q.clock = 0) (r1 r2 r3 : Array Value) (o1 o2 o3 : Bool) (z1 : r1.size = 23) (z2 : r2.size = 16) (z3 : r3.size = 16) (e1 : r1.all (·.oneCell') = true) (e2 : r2.all (·.oneCell') = true) (e3 : r3.all (·.oneCell') = true)
    (H1 : Hid (∀ u : World, Below w.heap.size w u → (Instr.lookup 71 (.map (some b1)) (.agg k.toArray) true).run Tryz.prog u = .ok (.tuple #[.agg r1, .bool o1]) u))
    (H2 : Hid (∀ u : World, Below w.heap.size w u → (Instr.lookup 72 (.map (some b2)) (.agg (k.take 8).toArray) true).run Tryz.prog u = .ok (.tuple #[.agg r2, .bool o2]) u))
    (H3 : Hid (∀ u : World, Below w.heap.size w u → (Instr.lookup 72 (.map (some b3)) (.agg (k.drop 8).toArray) true).run Tryz.prog u = .ok (.tuple #[.agg r3, .bool o3]) u))
    (ho : (o1 || o2 || o3) = true) : Calls Tryz.prog 14 #[.pointer (some ⟨tb, 0, none⟩), .int .i64 tick, .agg k.toArray] w (Gives (.int .i64 130) w) := by
  have ltb := h.tb_lt
  obtain ⟨c0, c1, c2, c3, c4⟩ := h.c
  have hkt8 : Bs 8 (k.take 8) := Bs.take (m := 8) hk
  have hkd : Bs 8 (k.drop 8) := Bs.drop (n := 8) hk
  go_enter Tryz.func14, Tryz.ntmps14
  go_wp2_with fail
  have bb : Below w.heap.size w (w.alloc (.cells k.toArray 59)) := (Below.refl _ w).alloc (Nat.le_refl _) _
  refine (at_real tb b1 tick q.clock _ ((bb.cell (p := ⟨tb, 2, none⟩) ltb).trans c2) ((bb.cell (p := ⟨tb, 0, none⟩) ltb).trans c0)).mono ?_
  rintro e w' ⟨rfl, rfl⟩
  rw [he]
  go_wp2_with fail
  have s1 := bb
  have s2 : (w.alloc (.cells k.toArray 59)).heap[w.heap.size]? = some (.cells k.toArray 59 (0, 0)) := heap_last w _
  have s3 : w.heap.size < (w.alloc (.cells k.toArray 59)).heap.size := by simp
  generalize (w.alloc (.cells k.toArray 59)) = W0 at *
  obtain ⟨b5, hb5⟩ : ∃ b5, b5 = w.heap.size := ⟨_, rfl⟩
  rw [← hb5] at s2 s3
  have B5 := Lib.hid (show w.heap.size ≤ b5 by omega)
  simp only [← hb5]
  clear hb5 bb
  refine wp_region_held_drew (S := (fun u => Below w.heap.size w u ∧ u.heap[b5]? = some (.cells k.toArray 59 (0, 0)) ∧ b5 < u.heap.size)) (by kernel_rfl) (⟨s1.drew, s2, s3⟩) ?_
  intro hS
  refine wpAnyH_take (i := 0) (oi := { dst := some 23, op := Op.move (Operand.tmp 0), type := 24, pos := "trip.go:53", after := #[], guard := none }) (v := .pointer (some ⟨tb, 0, none⟩)) rfl (by kernel_rfl) (by kernel_rfl) (by kernel_rfl) (fun _ _ _ h => h) (Or.inl ⟨by rfl, ?_⟩) (by assumption) ?_
  · intro z hz
    go_simp
  try simp only [Act.put, List.setIfInBounds_toArray, List.set_cons_zero, List.set_cons_succ]
  refine wpAnyH_take (i := 1) (oi := { dst := some 24, op := Op.nilCheck (Operand.tmp 23), type := 0, pos := "trip.go:53", after := #[{ on := 0, ground := Ground.data }], guard := none }) (v := .pointer (some ⟨tb, 0, none⟩)) rfl (by kernel_rfl) (by kernel_rfl) (by kernel_rfl) (fun _ _ _ h => h) (Or.inl ⟨by rfl, ?_⟩) (by assumption) ?_
  · intro z hz
    go_simp
  try simp only [Act.put, List.setIfInBounds_toArray, List.set_cons_zero, List.set_cons_succ]
  refine wpAnyH_take (i := 2) (oi := { dst := some 25, op := Op.fieldAddr 75 (Operand.tmp 24) 2, type := 0, pos := "trip.go:53", after := #[{ on := 1, ground := Ground.data }], guard := none }) (v := .pointer (some ⟨tb, 2, none⟩)) rfl (by kernel_rfl) (by kernel_rfl) (by kernel_rfl) (fun _ _ _ h => h) (Or.inl ⟨by rfl, ?_⟩) (by assumption) ?_
  · intro z hz
    go_simp
  try simp only [Act.put, List.setIfInBounds_toArray, List.set_cons_zero, List.set_cons_succ]
  refine wpAnyH_take (i := 3) (oi := { dst := some 26, op := Op.load 71 (Operand.tmp 25), type := 71, pos := "trip.go:53", after := #[{ on := 2, ground := Ground.data }], guard := none }) (v := .map (some b1)) rfl (by kernel_rfl) (by kernel_rfl) (by kernel_rfl) (fun _ _ _ h => h) (Or.inl ⟨by rfl, ?_⟩) (by assumption) ?_
  · intro z hz
    have c := (hz.1.cell (p := ⟨tb, 2, none⟩) ltb).trans c2
    go_simp
  try simp only [Act.put, List.setIfInBounds_toArray, List.set_cons_zero, List.set_cons_succ]
  refine wpAnyH_take (i := 4) (oi := { dst := some 27, op := Op.load 59 (Operand.tmp 5), type := 59, pos := "trip.go:53", after := #[], guard := none }) (v := .agg k.toArray) rfl (by kernel_rfl) (by kernel_rfl) (by kernel_rfl) (fun _ _ _ h => h) (yields_loadrow (by rfl) 59 _ (by rfl) b5 (by rfl) k.toArray 59 _ (fun u hu => hu.2.1) Tryz.underlying59 rfl (by rw [List.size_toArray, hk.1]; exact size25)) (by assumption) ?_
  try simp only [Act.put, List.setIfInBounds_toArray, List.set_cons_zero, List.set_cons_succ]
  refine wpAnyH_take (i := 5) (oi := { dst := some 28, op := Op.lookup 71 (Operand.tmp 26) (Operand.tmp 27) true, type := 84, pos := "trip.go:53", after := #[{ on := 3, ground := Ground.data }, { on := 4, ground := Ground.data }], guard := none }) (v := .tuple #[.agg r1, .bool o1]) rfl (by kernel_rfl) (by kernel_rfl) (by kernel_rfl) (fun _ _ _ h => h) (yields_lookup (by rfl) 71 _ _ true (by rfl) (.map (some b1)) (.agg k.toArray) _ (by rfl) (by rfl) (fun u hu => H1.out u hu.1)) (by assumption) ?_
  try simp only [Act.put, List.setIfInBounds_toArray, List.set_cons_zero, List.set_cons_succ]
  refine wpAnyH_take (i := 6) (oi := { dst := some 22, op := Op.move (Operand.tmp 28), type := 84, pos := "trip.go:53", after := #[{ on := 5, ground := Ground.data }], guard := none }) (v := .tuple #[.agg r1, .bool o1]) rfl (by kernel_rfl) (by kernel_rfl) (by kernel_rfl) (fun _ _ _ h => h) (Or.inl ⟨by rfl, ?_⟩) (by assumption) ?_
  · intro z hz
    go_simp
  try simp only [Act.put, List.setIfInBounds_toArray, List.set_cons_zero, List.set_cons_succ]
  refine wpAnyH_take (i := 7) (oi := { dst := some 29, op := Op.extract (Operand.tmp 22) 0, type := 83, pos := "trip.go:53", after := #[{ on := 6, ground := Ground.data }], guard := none }) (v := .agg r1) rfl (by kernel_rfl) (by kernel_rfl) (by kernel_rfl) (fun _ _ _ h => h) (Or.inl ⟨by rfl, ?_⟩) (by assumption) ?_
  · intro z hz
    go_simp
  try simp only [Act.put, List.setIfInBounds_toArray, List.set_cons_zero, List.set_cons_succ]
  refine wpAnyH_take (i := 8) (oi := { dst := some 30, op := Op.extract (Operand.tmp 22) 1, type := 4, pos := "trip.go:53", after := #[{ on := 6, ground := Ground.data }, { on := 10, ground := Ground.gcOnly Departure.lateStores }], guard := none }) (v := .bool o1) rfl (by kernel_rfl) (by kernel_rfl) (by kernel_rfl) (fun _ _ _ h => h) (Or.inl ⟨by rfl, ?_⟩) (by assumption) ?_
  · intro z hz
    go_simp
  try simp only [Act.put, List.setIfInBounds_toArray, List.set_cons_zero, List.set_cons_succ]
  refine wpAnyH_ready (rs := [9]) (by kernel_rfl) (by simp) ?_
  refine AllReadyH.cons (o := { dst := some 8, op := Op.alloc 83, type := 0, pos := "trip.go:53", after := #[], guard := none }) rfl (fun K hK => ?_) AllReadyH.nil
  rw [if_pos (by rfl)]
  refine wp_allocz 83 (by rfl) Z40 23 zero40 ?_
  refine hK.out _ _ (⟨hS.1.alloc hS.1.size _, (Below.heap_alloc _ _ _ hS.2.2).trans hS.2.1, by have := hS.2.2; simp <;> omega⟩) ?_
  clear hK K
  intro hS
  try simp only [Act.put, List.setIfInBounds_toArray, List.set_cons_zero, List.set_cons_succ]
  refine wpAnyH_ready (rs := [10]) (by kernel_rfl) (by simp) ?_
  refine AllReadyH.cons (o := { dst := none, op := Op.store 83 (Operand.tmp 8) (Operand.tmp 29), type := 0, pos := "trip.go:53", after := #[{ on := 9, ground := Ground.data }, { on := 7, ground := Ground.data }, { on := 0, ground := Ground.phase }, { on := 1, ground := Ground.phase }, { on := 2, ground := Ground.phase }, { on := 3, ground := Ground.phase }, { on := 4, ground := Ground.phase }, { on := 5, ground := Ground.phase }, { on := 6, ground := Ground.phase }, { on := 7, ground := Ground.phase }, { on := 8, ground := Ground.textOnly Departure.lateStores }, { on := 9, ground := Ground.phase }], guard := none }) rfl (fun K hK => ?_) AllReadyH.nil
  rw [if_pos (by rfl)]
  refine wp_storerow 83 _ _ (by rfl) _ (by rfl) Z40 r1 (by rfl) (heap_last _ _) (by rw [z1]; exact size40) (z40s.trans z1.symm) e1 ?_
  refine hK.out _ _ (⟨Below.setRow hS.1 (by have := B5.out; omega) _, (setRow_other _ _ _ _ (by have := B5.out; omega)).trans hS.2.1, by have := hS.2.2; simp at this ⊢ <;> omega⟩) ?_
  clear hK K
  intro hS
  try simp only [Act.put, List.setIfInBounds_toArray, List.set_cons_zero, List.set_cons_succ]
  refine wpAnyH_take (i := 11) (oi := { dst := some 9, op := Op.assign (Operand.tmp 30), type := 4, pos := "trip.go:53", after := #[{ on := 8, ground := Ground.data }, { on := 10, ground := Ground.chain }, { on := 0, ground := Ground.phase }, { on := 1, ground := Ground.phase }, { on := 2, ground := Ground.phase }, { on := 3, ground := Ground.phase }, { on := 4, ground := Ground.phase }, { on := 5, ground := Ground.phase }, { on := 6, ground := Ground.phase }, { on := 7, ground := Ground.phase }, { on := 8, ground := Ground.phase }, { on := 9, ground := Ground.phase }, { on := 10, ground := Ground.phase }], guard := none }) (v := .bool o1) rfl (by kernel_rfl) (by kernel_rfl) (by kernel_rfl) (fun _ _ _ h => h) (Or.inl ⟨by rfl, ?_⟩) (by assumption) ?_
  · intro z hz
    go_simp
  try simp only [Act.put, List.setIfInBounds_toArray, List.set_cons_zero, List.set_cons_succ]
  refine wpAnyH_done (by kernel_rfl) ?_ _
  obtain ⟨s1, s2, s3⟩ := hS
  generalize (W0.drew.alloc (.cells Z40 83)).setRow W0.drew.heap.size r1 = W1 at *
  go_wp2_with fail
  refine wp_region_held_drew (S := (fun u => Below w.heap.size w u ∧ u.heap[b5]? = some (.cells k.toArray 59 (0, 0)) ∧ b5 < u.heap.size)) (by kernel_rfl) (⟨s1.drew, s2, s3⟩) ?_
  intro hS
  refine wpAnyH_take (i := 0) (oi := { dst := some 32, op := Op.move (Operand.tmp 0), type := 24, pos := "trip.go:54", after := #[], guard := none }) (v := .pointer (some ⟨tb, 0, none⟩)) rfl (by kernel_rfl) (by kernel_rfl) (by kernel_rfl) (fun _ _ _ h => h) (Or.inl ⟨by rfl, ?_⟩) (by assumption) ?_
  · intro z hz
    go_simp
  try simp only [Act.put, List.setIfInBounds_toArray, List.set_cons_zero, List.set_cons_succ]
  refine wpAnyH_take (i := 1) (oi := { dst := some 33, op := Op.nilCheck (Operand.tmp 32), type := 0, pos := "trip.go:54", after := #[{ on := 0, ground := Ground.data }], guard := none }) (v := .pointer (some ⟨tb, 0, none⟩)) rfl (by kernel_rfl) (by kernel_rfl) (by kernel_rfl) (fun _ _ _ h => h) (Or.inl ⟨by rfl, ?_⟩) (by assumption) ?_
  · intro z hz
    go_simp
  try simp only [Act.put, List.setIfInBounds_toArray, List.set_cons_zero, List.set_cons_succ]
  refine wpAnyH_take (i := 2) (oi := { dst := some 34, op := Op.fieldAddr 75 (Operand.tmp 33) 3, type := 0, pos := "trip.go:54", after := #[{ on := 1, ground := Ground.data }], guard := none }) (v := .pointer (some ⟨tb, 3, none⟩)) rfl (by kernel_rfl) (by kernel_rfl) (by kernel_rfl) (fun _ _ _ h => h) (Or.inl ⟨by rfl, ?_⟩) (by assumption) ?_
  · intro z hz
    go_simp
  try simp only [Act.put, List.setIfInBounds_toArray, List.set_cons_zero, List.set_cons_succ]
  refine wpAnyH_take (i := 3) (oi := { dst := some 35, op := Op.load 72 (Operand.tmp 34), type := 72, pos := "trip.go:54", after := #[{ on := 2, ground := Ground.data }], guard := none }) (v := .map (some b2)) rfl (by kernel_rfl) (by kernel_rfl) (by kernel_rfl) (fun _ _ _ h => h) (Or.inl ⟨by rfl, ?_⟩) (by assumption) ?_
  · intro z hz
    have c := (hz.1.cell (p := ⟨tb, 3, none⟩) ltb).trans c3
    go_simp
  try simp only [Act.put, List.setIfInBounds_toArray, List.set_cons_zero, List.set_cons_succ]
  refine wpAnyH_take (i := 4) (oi := { dst := some 36, op := Op.fieldAddr 59 (Operand.tmp 5) 0, type := 0, pos := "trip.go:54", after := #[], guard := none }) (v := .pointer (some ⟨b5, 0, none⟩)) rfl (by kernel_rfl) (by kernel_rfl) (by kernel_rfl) (fun _ _ _ h => h) (Or.inl ⟨by rfl, ?_⟩) (by assumption) ?_
  · intro z hz
    go_simp
  try simp only [Act.put, List.setIfInBounds_toArray, List.set_cons_zero, List.set_cons_succ]
  refine wpAnyH_take (i := 5) (oi := { dst := some 37, op := Op.load 57 (Operand.tmp 36), type := 57, pos := "trip.go:54", after := #[{ on := 4, ground := Ground.data }], guard := none }) (v := .agg (k.take 8).toArray) rfl (by kernel_rfl) (by kernel_rfl) (by kernel_rfl) (fun _ _ _ h => h) (yieldsIf_load_mid (by rfl) 57 _ (by rfl) b5 0 (by rfl) (k.take 8) _ (fun u hu => range_sub hu.2.1 0 (a := []) (cs := k.take 8) (z := k.drop 8) (by rw [List.nil_append, List.take_append_drop]) rfl) Tryz.underlying57 rfl (by rw [hkt8.1]; exact size23)) (by assumption) ?_
  try simp only [Act.put, List.setIfInBounds_toArray, List.set_cons_zero, List.set_cons_succ]
  refine wpAnyH_take (i := 6) (oi := { dst := some 38, op := Op.lookup 72 (Operand.tmp 35) (Operand.tmp 37) true, type := 88, pos := "trip.go:54", after := #[{ on := 3, ground := Ground.data }, { on := 5, ground := Ground.data }], guard := none }) (v := .tuple #[.agg r2, .bool o2]) rfl (by kernel_rfl) (by kernel_rfl) (by kernel_rfl) (fun _ _ _ h => h) (yields_lookup (by rfl) 72 _ _ true (by rfl) (.map (some b2)) (.agg (k.take 8).toArray) _ (by rfl) (by rfl) (fun u hu => H2.out u hu.1)) (by assumption) ?_
  try simp only [Act.put, List.setIfInBounds_toArray, List.set_cons_zero, List.set_cons_succ]
  refine wpAnyH_take (i := 7) (oi := { dst := some 31, op := Op.move (Operand.tmp 38), type := 88, pos := "trip.go:54", after := #[{ on := 6, ground := Ground.data }], guard := none }) (v := .tuple #[.agg r2, .bool o2]) rfl (by kernel_rfl) (by kernel_rfl) (by kernel_rfl) (fun _ _ _ h => h) (Or.inl ⟨by rfl, ?_⟩) (by assumption) ?_
  · intro z hz
    go_simp
  try simp only [Act.put, List.setIfInBounds_toArray, List.set_cons_zero, List.set_cons_succ]
  refine wpAnyH_take (i := 8) (oi := { dst := some 39, op := Op.extract (Operand.tmp 31) 0, type := 59, pos := "trip.go:54", after := #[{ on := 7, ground := Ground.data }], guard := none }) (v := .agg r2) rfl (by kernel_rfl) (by kernel_rfl) (by kernel_rfl) (fun _ _ _ h => h) (Or.inl ⟨by rfl, ?_⟩) (by assumption) ?_
  · intro z hz
    go_simp
  try simp only [Act.put, List.setIfInBounds_toArray, List.set_cons_zero, List.set_cons_succ]
  refine wpAnyH_take (i := 9) (oi := { dst := some 40, op := Op.extract (Operand.tmp 31) 1, type := 4, pos := "trip.go:54", after := #[{ on := 7, ground := Ground.data }, { on := 11, ground := Ground.gcOnly Departure.lateStores }], guard := none }) (v := .bool o2) rfl (by kernel_rfl) (by kernel_rfl) (by kernel_rfl) (fun _ _ _ h => h) (Or.inl ⟨by rfl, ?_⟩) (by assumption) ?_
  · intro z hz
    go_simp
  try simp only [Act.put, List.setIfInBounds_toArray, List.set_cons_zero, List.set_cons_succ]
  refine wpAnyH_ready (rs := [10]) (by kernel_rfl) (by simp) ?_
  refine AllReadyH.cons (o := { dst := some 10, op := Op.alloc 59, type := 0, pos := "trip.go:54", after := #[], guard := none }) rfl (fun K hK => ?_) AllReadyH.nil
  rw [if_pos (by rfl)]
  refine wp_allocz 59 (by rfl) Z25 16 zero25 ?_
  refine hK.out _ _ (⟨hS.1.alloc hS.1.size _, (Below.heap_alloc _ _ _ hS.2.2).trans hS.2.1, by have := hS.2.2; simp <;> omega⟩) ?_
  clear hK K
  intro hS
  try simp only [Act.put, List.setIfInBounds_toArray, List.set_cons_zero, List.set_cons_succ]
  refine wpAnyH_ready (rs := [11]) (by kernel_rfl) (by simp) ?_
  refine AllReadyH.cons (o := { dst := none, op := Op.store 59 (Operand.tmp 10) (Operand.tmp 39), type := 0, pos := "trip.go:54", after := #[{ on := 10, ground := Ground.data }, { on := 8, ground := Ground.data }, { on := 0, ground := Ground.phase }, { on := 1, ground := Ground.phase }, { on := 2, ground := Ground.phase }, { on := 3, ground := Ground.phase }, { on := 4, ground := Ground.phase }, { on := 5, ground := Ground.phase }, { on := 6, ground := Ground.phase }, { on := 7, ground := Ground.phase }, { on := 8, ground := Ground.phase }, { on := 9, ground := Ground.textOnly Departure.lateStores }, { on := 10, ground := Ground.phase }], guard := none }) rfl (fun K hK => ?_) AllReadyH.nil
  rw [if_pos (by rfl)]
  refine wp_storerow 59 _ _ (by rfl) _ (by rfl) Z25 r2 (by rfl) (heap_last _ _) (by rw [z2]; exact size25) (z25s.trans z2.symm) e2 ?_
  refine hK.out _ _ (⟨Below.setRow hS.1 (by have := B5.out; omega) _, (setRow_other _ _ _ _ (by have := B5.out; omega)).trans hS.2.1, by have := hS.2.2; simp at this ⊢ <;> omega⟩) ?_
  clear hK K
  intro hS
  try simp only [Act.put, List.setIfInBounds_toArray, List.set_cons_zero, List.set_cons_succ]
  refine wpAnyH_take (i := 12) (oi := { dst := some 11, op := Op.assign (Operand.tmp 40), type := 4, pos := "trip.go:54", after := #[{ on := 9, ground := Ground.data }, { on := 11, ground := Ground.chain }, { on := 0, ground := Ground.phase }, { on := 1, ground := Ground.phase }, { on := 2, ground := Ground.phase }, { on := 3, ground := Ground.phase }, { on := 4, ground := Ground.phase }, { on := 5, ground := Ground.phase }, { on := 6, ground := Ground.phase }, { on := 7, ground := Ground.phase }, { on := 8, ground := Ground.phase }, { on := 9, ground := Ground.phase }, { on := 10, ground := Ground.phase }, { on := 11, ground := Ground.phase }], guard := none }) (v := .bool o2) rfl (by kernel_rfl) (by kernel_rfl) (by kernel_rfl) (fun _ _ _ h => h) (Or.inl ⟨by rfl, ?_⟩) (by assumption) ?_
  · intro z hz
    go_simp
  try simp only [Act.put, List.setIfInBounds_toArray, List.set_cons_zero, List.set_cons_succ]
  refine wpAnyH_done (by kernel_rfl) ?_ _
  obtain ⟨s1, s2, s3⟩ := hS
  generalize (W1.drew.alloc (.cells Z25 59)).setRow W1.drew.heap.size r2 = W2 at *
  go_wp2_with fail
  refine wp_region_held_drew (S := (fun u => Below w.heap.size w u ∧ u.heap[b5]? = some (.cells k.toArray 59 (0, 0)) ∧ b5 < u.heap.size)) (by kernel_rfl) (⟨s1.drew, s2, s3⟩) ?_
  intro hS
  refine wpAnyH_take (i := 0) (oi := { dst := some 42, op := Op.move (Operand.tmp 0), type := 24, pos := "trip.go:55", after := #[], guard := none }) (v := .pointer (some ⟨tb, 0, none⟩)) rfl (by kernel_rfl) (by kernel_rfl) (by kernel_rfl) (fun _ _ _ h => h) (Or.inl ⟨by rfl, ?_⟩) (by assumption) ?_
  · intro z hz
    go_simp
  try simp only [Act.put, List.setIfInBounds_toArray, List.set_cons_zero, List.set_cons_succ]
  refine wpAnyH_take (i := 1) (oi := { dst := some 43, op := Op.nilCheck (Operand.tmp 42), type := 0, pos := "trip.go:55", after := #[{ on := 0, ground := Ground.data }], guard := none }) (v := .pointer (some ⟨tb, 0, none⟩)) rfl (by kernel_rfl) (by kernel_rfl) (by kernel_rfl) (fun _ _ _ h => h) (Or.inl ⟨by rfl, ?_⟩) (by assumption) ?_
  · intro z hz
    go_simp
  try simp only [Act.put, List.setIfInBounds_toArray, List.set_cons_zero, List.set_cons_succ]
  refine wpAnyH_take (i := 2) (oi := { dst := some 44, op := Op.fieldAddr 75 (Operand.tmp 43) 4, type := 0, pos := "trip.go:55", after := #[{ on := 1, ground := Ground.data }], guard := none }) (v := .pointer (some ⟨tb, 4, none⟩)) rfl (by kernel_rfl) (by kernel_rfl) (by kernel_rfl) (fun _ _ _ h => h) (Or.inl ⟨by rfl, ?_⟩) (by assumption) ?_
  · intro z hz
    go_simp
  try simp only [Act.put, List.setIfInBounds_toArray, List.set_cons_zero, List.set_cons_succ]
  refine wpAnyH_take (i := 3) (oi := { dst := some 45, op := Op.load 72 (Operand.tmp 44), type := 72, pos := "trip.go:55", after := #[{ on := 2, ground := Ground.data }], guard := none }) (v := .map (some b3)) rfl (by kernel_rfl) (by kernel_rfl) (by kernel_rfl) (fun _ _ _ h => h) (Or.inl ⟨by rfl, ?_⟩) (by assumption) ?_
  · intro z hz
    have c := (hz.1.cell (p := ⟨tb, 4, none⟩) ltb).trans c4
    go_simp
  try simp only [Act.put, List.setIfInBounds_toArray, List.set_cons_zero, List.set_cons_succ]
  refine wpAnyH_take (i := 4) (oi := { dst := some 46, op := Op.fieldAddr 59 (Operand.tmp 5) 1, type := 0, pos := "trip.go:55", after := #[], guard := none }) (v := .pointer (some ⟨b5, 8, none⟩)) rfl (by kernel_rfl) (by kernel_rfl) (by kernel_rfl) (fun _ _ _ h => h) (Or.inl ⟨by rfl, ?_⟩) (by assumption) ?_
  · intro z hz
    go_simp
  try simp only [Act.put, List.setIfInBounds_toArray, List.set_cons_zero, List.set_cons_succ]
  refine wpAnyH_take (i := 5) (oi := { dst := some 47, op := Op.load 57 (Operand.tmp 46), type := 57, pos := "trip.go:55", after := #[{ on := 4, ground := Ground.data }], guard := none }) (v := .agg (k.drop 8).toArray) rfl (by kernel_rfl) (by kernel_rfl) (by kernel_rfl) (fun _ _ _ h => h) (yieldsIf_load_mid (by rfl) 57 _ (by rfl) b5 8 (by rfl) (k.drop 8) _ (fun u hu => range_sub hu.2.1 8 (a := k.take 8) (cs := k.drop 8) (z := []) (by rw [List.append_nil, List.take_append_drop]) (by rw [List.length_take, hk.1]; rfl)) Tryz.underlying57 rfl (by rw [hkd.1]; exact size23)) (by assumption) ?_
  try simp only [Act.put, List.setIfInBounds_toArray, List.set_cons_zero, List.set_cons_succ]
  refine wpAnyH_take (i := 6) (oi := { dst := some 48, op := Op.lookup 72 (Operand.tmp 45) (Operand.tmp 47) true, type := 88, pos := "trip.go:55", after := #[{ on := 3, ground := Ground.data }, { on := 5, ground := Ground.data }], guard := none }) (v := .tuple #[.agg r3, .bool o3]) rfl (by kernel_rfl) (by kernel_rfl) (by kernel_rfl) (fun _ _ _ h => h) (yields_lookup (by rfl) 72 _ _ true (by rfl) (.map (some b3)) (.agg (k.drop 8).toArray) _ (by rfl) (by rfl) (fun u hu => H3.out u hu.1)) (by assumption) ?_
  try simp only [Act.put, List.setIfInBounds_toArray, List.set_cons_zero, List.set_cons_succ]
  refine wpAnyH_take (i := 7) (oi := { dst := some 41, op := Op.move (Operand.tmp 48), type := 88, pos := "trip.go:55", after := #[{ on := 6, ground := Ground.data }], guard := none }) (v := .tuple #[.agg r3, .bool o3]) rfl (by kernel_rfl) (by kernel_rfl) (by kernel_rfl) (fun _ _ _ h => h) (Or.inl ⟨by rfl, ?_⟩) (by assumption) ?_
  · intro z hz
    go_simp
  try simp only [Act.put, List.setIfInBounds_toArray, List.set_cons_zero, List.set_cons_succ]
  refine wpAnyH_take (i := 8) (oi := { dst := some 49, op := Op.extract (Operand.tmp 41) 0, type := 59, pos := "trip.go:55", after := #[{ on := 7, ground := Ground.data }], guard := none }) (v := .agg r3) rfl (by kernel_rfl) (by kernel_rfl) (by kernel_rfl) (fun _ _ _ h => h) (Or.inl ⟨by rfl, ?_⟩) (by assumption) ?_
  · intro z hz
    go_simp
  try simp only [Act.put, List.setIfInBounds_toArray, List.set_cons_zero, List.set_cons_succ]
  refine wpAnyH_take (i := 9) (oi := { dst := some 50, op := Op.extract (Operand.tmp 41) 1, type := 4, pos := "trip.go:55", after := #[{ on := 7, ground := Ground.data }, { on := 11, ground := Ground.gcOnly Departure.lateStores }], guard := none }) (v := .bool o3) rfl (by kernel_rfl) (by kernel_rfl) (by kernel_rfl) (fun _ _ _ h => h) (Or.inl ⟨by rfl, ?_⟩) (by assumption) ?_
  · intro z hz
    go_simp
  try simp only [Act.put, List.setIfInBounds_toArray, List.set_cons_zero, List.set_cons_succ]
  refine wpAnyH_ready (rs := [10]) (by kernel_rfl) (by simp) ?_
  refine AllReadyH.cons (o := { dst := some 12, op := Op.alloc 59, type := 0, pos := "trip.go:55", after := #[], guard := none }) rfl (fun K hK => ?_) AllReadyH.nil
  rw [if_pos (by rfl)]
  refine wp_allocz 59 (by rfl) Z25 16 zero25 ?_
  refine hK.out _ _ (⟨hS.1.alloc hS.1.size _, (Below.heap_alloc _ _ _ hS.2.2).trans hS.2.1, by have := hS.2.2; simp <;> omega⟩) ?_
  clear hK K
  intro hS
  try simp only [Act.put, List.setIfInBounds_toArray, List.set_cons_zero, List.set_cons_succ]
  refine wpAnyH_ready (rs := [11]) (by kernel_rfl) (by simp) ?_
  refine AllReadyH.cons (o := { dst := none, op := Op.store 59 (Operand.tmp 12) (Operand.tmp 49), type := 0, pos := "trip.go:55", after := #[{ on := 10, ground := Ground.data }, { on := 8, ground := Ground.data }, { on := 0, ground := Ground.phase }, { on := 1, ground := Ground.phase }, { on := 2, ground := Ground.phase }, { on := 3, ground := Ground.phase }, { on := 4, ground := Ground.phase }, { on := 5, ground := Ground.phase }, { on := 6, ground := Ground.phase }, { on := 7, ground := Ground.phase }, { on := 8, ground := Ground.phase }, { on := 9, ground := Ground.textOnly Departure.lateStores }, { on := 10, ground := Ground.phase }], guard := none }) rfl (fun K hK => ?_) AllReadyH.nil
  rw [if_pos (by rfl)]
  refine wp_storerow 59 _ _ (by rfl) _ (by rfl) Z25 r3 (by rfl) (heap_last _ _) (by rw [z3]; exact size25) (z25s.trans z3.symm) e3 ?_
  refine hK.out _ _ (⟨Below.setRow hS.1 (by have := B5.out; omega) _, (setRow_other _ _ _ _ (by have := B5.out; omega)).trans hS.2.1, by have := hS.2.2; simp at this ⊢ <;> omega⟩) ?_
  clear hK K
  intro hS
  try simp only [Act.put, List.setIfInBounds_toArray, List.set_cons_zero, List.set_cons_succ]
  refine wpAnyH_take (i := 12) (oi := { dst := some 13, op := Op.assign (Operand.tmp 50), type := 4, pos := "trip.go:55", after := #[{ on := 9, ground := Ground.data }, { on := 11, ground := Ground.chain }, { on := 0, ground := Ground.phase }, { on := 1, ground := Ground.phase }, { on := 2, ground := Ground.phase }, { on := 3, ground := Ground.phase }, { on := 4, ground := Ground.phase }, { on := 5, ground := Ground.phase }, { on := 6, ground := Ground.phase }, { on := 7, ground := Ground.phase }, { on := 8, ground := Ground.phase }, { on := 9, ground := Ground.phase }, { on := 10, ground := Ground.phase }, { on := 11, ground := Ground.phase }], guard := none }) (v := .bool o3) rfl (by kernel_rfl) (by kernel_rfl) (by kernel_rfl) (fun _ _ _ h => h) (Or.inl ⟨by rfl, ?_⟩) (by assumption) ?_
  · intro z hz
    go_simp
  try simp only [Act.put, List.setIfInBounds_toArray, List.set_cons_zero, List.set_cons_succ]
  refine wpAnyH_done (by kernel_rfl) ?_ _
  obtain ⟨s1, s2, s3⟩ := hS
  generalize (W2.drew.alloc (.cells Z25 59)).setRow W2.drew.heap.size r3 = W3 at *
  cases o1 <;> cases o2 <;> cases o3 <;> first | (exact absurd ho (by decide)) | (go_wp2_with fail; go_ret; exact gives_of_eq rfl s1)
end
end Go.Proofs.YtnooghehmgbemaaGreat
