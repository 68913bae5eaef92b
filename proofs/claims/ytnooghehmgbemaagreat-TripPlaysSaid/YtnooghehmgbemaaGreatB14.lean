/- Trip: Assign begins a trip. -/
import Derived.Test.YtnooghehmgbemaaGreatB13
namespace Go.Proofs.YtnooghehmgbemaaGreat
open Go.RowKit
set_option linter.unusedVariables false
set_option linter.unusedSimpArgs false
section
variable {F : Nat → Prop} {w : World} {tb b1 b2 b3 : Nat} {ov : Value} {q : St}
set_option maxRecDepth 20000 in
set_option maxHeartbeats 16000000 in
theorem assign_new (h : TripsIn F w tb b1 b2 b3 ov q) (hF : ∀ j, F j → j < w.heap.size) (tick : Int) (k : List Value) (hk : Bs 16 k) (he : atE tick q.clock = 0) (r1 r2 r3 : Array Value) (o1 o2 o3 : Bool) (z1 : r1.size = 23) (z2 : r2.size = 16) (z3 : r3.size = 16) (e1 : r1.all (·.oneCell') = true) (e2 : r2.all (·.oneCell') = true) (e3 : r3.all (·.oneCell') = true)
    (H1 : Hid (∀ u : World, Below w.heap.size w u → (Instr.lookup 71 (.map (some b1)) (.agg k.toArray) true).run Tryz.prog u = .ok (.tuple #[.agg r1, .bool o1]) u))
    (H2 : Hid (∀ u : World, Below w.heap.size w u → (Instr.lookup 72 (.map (some b2)) (.agg (k.take 8).toArray) true).run Tryz.prog u = .ok (.tuple #[.agg r2, .bool o2]) u))
    (H3 : Hid (∀ u : World, Below w.heap.size w u → (Instr.lookup 72 (.map (some b3)) (.agg (k.drop 8).toArray) true).run Tryz.prog u = .ok (.tuple #[.agg r3, .bool o3]) u))
    (ho1 : o1 = false) (ho2 : o2 = false) (ho3 : o3 = false) (hno1 : Hid (∀ t ∈ q.l, t.k ≠ k)) (hno2 : Hid (∀ t ∈ q.l, t.on → t.rider ≠ k.take 8)) (hno3 : Hid (∀ t ∈ q.l, t.on → t.driver ≠ k.drop 8)) (hn : Hid (q.l.length ≤ 1048576)) :
    Calls Tryz.prog 14 #[.pointer (some ⟨tb, 0, none⟩), .int .i64 tick, .agg k.toArray] w fun e w' => e = .returned (.int .i64 0) ∧ ∃ F' ov', Lies F w w' ∧ (∀ j, F' j → F j ∨ w.heap.size ≤ j) ∧ (∀ j, F' j → j < w'.heap.size) ∧ TripsIn F' w' tb b1 b2 b3 ov' ⟨tick, q.l ++ [newTr k tick]⟩ := by
  have ltb := h.tb_lt
  obtain ⟨c0, c1, c2, c3, c4⟩ := h.c
  have hkt8 : Bs 8 (k.take 8) := Bs.take (m := 8) hk
  have hkd : Bs 8 (k.drop 8) := Bs.drop (n := 8) hk
  go_enter Tryz.func14, Tryz.ntmps14
  go_wp2_with fail
  have bb : Below w.heap.size w (w.alloc (.cells k.toArray 59)) := (Below.refl _ w).alloc (Nat.le_refl _) _
  refine (at_real tb b1 tick q.clock _ ((bb.cell (p := ⟨tb, 2, none⟩) ltb).trans c2) ((bb.cell (p := ⟨tb, 0, none⟩) ltb).trans c0)).mono ?_
  rintro e w' ⟨rfl, rfl⟩
  rw [he]
  go_wp2_with fail
  have s1 := bb
  have s2 : (w.alloc (.cells k.toArray 59)).heap[w.heap.size]? = some (.cells k.toArray 59 (0, 0)) := heap_last w _
  have s3 : w.heap.size < (w.alloc (.cells k.toArray 59)).heap.size := by simp
  generalize (w.alloc (.cells k.toArray 59)) = W0 at *
  obtain ⟨b5, hb5⟩ : ∃ b5, b5 = w.heap.size := ⟨_, rfl⟩
  rw [← hb5] at s2 s3
  have B5 := Lib.hid (show w.heap.size ≤ b5 by omega)
  simp only [← hb5]
  clear hb5 bb
  refine wp_region_held_drew (S := (fun u => Below w.heap.size w u ∧ u.heap[b5]? = some (.cells k.toArray 59 (0, 0)) ∧ b5 < u.heap.size)) (by kernel_rfl) (⟨s1.drew, s2, s3⟩) ?_
  intro hS
  refine wpAnyH_take (i := 0) (oi := { dst := some 23, op := Op.move (Operand.tmp 0), type := 24, pos := "trip.go:53", after := #[], guard := none }) (v := .pointer (some ⟨tb, 0, none⟩)) rfl (by kernel_rfl) (by kernel_rfl) (by kernel_rfl) (fun _ _ _ h => h) (Or.inl ⟨by rfl, ?_⟩) (by assumption) ?_
  · intro z hz
    go_simp
  try simp only [Act.put, List.setIfInBounds_toArray, List.set_cons_zero, List.set_cons_succ]
  refine wpAnyH_take (i := 1) (oi := { dst := some 24, op := Op.nilCheck (Operand.tmp 23), type := 0, pos := "trip.go:53", after := #[{ on := 0, ground := Ground.data }], guard := none }) (v := .pointer (some ⟨tb, 0, none⟩)) rfl (by kernel_rfl) (by kernel_rfl) (by kernel_rfl) (fun _ _ _ h => h) (Or.inl ⟨by rfl, ?_⟩) (by assumption) ?_
  · intro z hz
    go_simp
  try simp only [Act.put, List.setIfInBounds_toArray, List.set_cons_zero, List.set_cons_succ]
  refine wpAnyH_take (i := 2) (oi := { dst := some 25, op := Op.fieldAddr 75 (Operand.tmp 24) 2, type := 0, pos := "trip.go:53", after := #[{ on := 1, ground := Ground.data }], guard := none }) (v := .pointer (some ⟨tb, 2, none⟩)) rfl (by kernel_rfl) (by kernel_rfl) (by kernel_rfl) (fun _ _ _ h => h) (Or.inl ⟨by rfl, ?_⟩) (by assumption) ?_
  · intro z hz
    go_simp
  try simp only [Act.put, List.setIfInBounds_toArray, List.set_cons_zero, List.set_cons_succ]
  refine wpAnyH_take (i := 3) (oi := { dst := some 26, op := Op.load 71 (Operand.tmp 25), type := 71, pos := "trip.go:53", after := #[{ on := 2, ground := Ground.data }], guard := none }) (v := .map (some b1)) rfl (by kernel_rfl) (by kernel_rfl) (by kernel_rfl) (fun _ _ _ h => h) (Or.inl ⟨by rfl, ?_⟩) (by assumption) ?_
  · intro z hz
    have c := (hz.1.cell (p := ⟨tb, 2, none⟩) ltb).trans c2
    go_simp
  try simp only [Act.put, List.setIfInBounds_toArray, List.set_cons_zero, List.set_cons_succ]
  refine wpAnyH_take (i := 4) (oi := { dst := some 27, op := Op.load 59 (Operand.tmp 5), type := 59, pos := "trip.go:53", after := #[], guard := none }) (v := .agg k.toArray) rfl (by kernel_rfl) (by kernel_rfl) (by kernel_rfl) (fun _ _ _ h => h) (yields_loadrow (by rfl) 59 _ (by rfl) b5 (by rfl) k.toArray 59 _ (fun u hu => hu.2.1) Tryz.underlying59 rfl (by rw [List.size_toArray, hk.1]; exact size25)) (by assumption) ?_
  try simp only [Act.put, List.setIfInBounds_toArray, List.set_cons_zero, List.set_cons_succ]
  refine wpAnyH_take (i := 5) (oi := { dst := some 28, op := Op.lookup 71 (Operand.tmp 26) (Operand.tmp 27) true, type := 84, pos := "trip.go:53", after := #[{ on := 3, ground := Ground.data }, { on := 4, ground := Ground.data }], guard := none }) (v := .tuple #[.agg r1, .bool o1]) rfl (by kernel_rfl) (by kernel_rfl) (by kernel_rfl) (fun _ _ _ h => h) (yields_lookup (by rfl) 71 _ _ true (by rfl) (.map (some b1)) (.agg k.toArray) _ (by rfl) (by rfl) (fun u hu => H1.out u hu.1)) (by assumption) ?_
  try simp only [Act.put, List.setIfInBounds_toArray, List.set_cons_zero, List.set_cons_succ]
  refine wpAnyH_take (i := 6) (oi := { dst := some 22, op := Op.move (Operand.tmp 28), type := 84, pos := "trip.go:53", after := #[{ on := 5, ground := Ground.data }], guard := none }) (v := .tuple #[.agg r1, .bool o1]) rfl (by kernel_rfl) (by kernel_rfl) (by kernel_rfl) (fun _ _ _ h => h) (Or.inl ⟨by rfl, ?_⟩) (by assumption) ?_
  · intro z hz
    go_simp
  try simp only [Act.put, List.setIfInBounds_toArray, List.set_cons_zero, List.set_cons_succ]
  refine wpAnyH_take (i := 7) (oi := { dst := some 29, op := Op.extract (Operand.tmp 22) 0, type := 83, pos := "trip.go:53", after := #[{ on := 6, ground := Ground.data }], guard := none }) (v := .agg r1) rfl (by kernel_rfl) (by kernel_rfl) (by kernel_rfl) (fun _ _ _ h => h) (Or.inl ⟨by rfl, ?_⟩) (by assumption) ?_
  · intro z hz
    go_simp
  try simp only [Act.put, List.setIfInBounds_toArray, List.set_cons_zero, List.set_cons_succ]
  refine wpAnyH_take (i := 8) (oi := { dst := some 30, op := Op.extract (Operand.tmp 22) 1, type := 4, pos := "trip.go:53", after := #[{ on := 6, ground := Ground.data }, { on := 10, ground := Ground.gcOnly Departure.lateStores }], guard := none }) (v := .bool o1) rfl (by kernel_rfl) (by kernel_rfl) (by kernel_rfl) (fun _ _ _ h => h) (Or.inl ⟨by rfl, ?_⟩) (by assumption) ?_
  · intro z hz
    go_simp
  try simp only [Act.put, List.setIfInBounds_toArray, List.set_cons_zero, List.set_cons_succ]
  refine wpAnyH_ready (rs := [9]) (by kernel_rfl) (by simp) ?_
  refine AllReadyH.cons (o := { dst := some 8, op := Op.alloc 83, type := 0, pos := "trip.go:53", after := #[], guard := none }) rfl (fun K hK => ?_) AllReadyH.nil
  rw [if_pos (by rfl)]
  refine wp_allocz 83 (by rfl) Z40 23 zero40 ?_
  refine hK.out _ _ (⟨hS.1.alloc hS.1.size _, (Below.heap_alloc _ _ _ hS.2.2).trans hS.2.1, by have := hS.2.2; simp <;> omega⟩) ?_
  clear hK K
  intro hS
  try simp only [Act.put, List.setIfInBounds_toArray, List.set_cons_zero, List.set_cons_succ]
  refine wpAnyH_ready (rs := [10]) (by kernel_rfl) (by simp) ?_
  refine AllReadyH.cons (o := { dst := none, op := Op.store 83 (Operand.tmp 8) (Operand.tmp 29), type := 0, pos := "trip.go:53", after := #[{ on := 9, ground := Ground.data }, { on := 7, ground := Ground.data }, { on := 0, ground := Ground.phase }, { on := 1, ground := Ground.phase }, { on := 2, ground := Ground.phase }, { on := 3, ground := Ground.phase }, { on := 4, ground := Ground.phase }, { on := 5, ground := Ground.phase }, { on := 6, ground := Ground.phase }, { on := 7, ground := Ground.phase }, { on := 8, ground := Ground.textOnly Departure.lateStores }, { on := 9, ground := Ground.phase }], guard := none }) rfl (fun K hK => ?_) AllReadyH.nil
  rw [if_pos (by rfl)]
  refine wp_storerow 83 _ _ (by rfl) _ (by rfl) Z40 r1 (by rfl) (heap_last _ _) (by rw [z1]; exact size40) (z40s.trans z1.symm) e1 ?_
  refine hK.out _ _ (⟨Below.setRow hS.1 (by have := B5.out; omega) _, (setRow_other _ _ _ _ (by have := B5.out; omega)).trans hS.2.1, by have := hS.2.2; simp at this ⊢ <;> omega⟩) ?_
  clear hK K
  intro hS
  try simp only [Act.put, List.setIfInBounds_toArray, List.set_cons_zero, List.set_cons_succ]
  refine wpAnyH_take (i := 11) (oi := { dst := some 9, op := Op.assign (Operand.tmp 30), type := 4, pos := "trip.go:53", after := #[{ on := 8, ground := Ground.data }, { on := 10, ground := Ground.chain }, { on := 0, ground := Ground.phase }, { on := 1, ground := Ground.phase }, { on := 2, ground := Ground.phase }, { on := 3, ground := Ground.phase }, { on := 4, ground := Ground.phase }, { on := 5, ground := Ground.phase }, { on := 6, ground := Ground.phase }, { on := 7, ground := Ground.phase }, { on := 8, ground := Ground.phase }, { on := 9, ground := Ground.phase }, { on := 10, ground := Ground.phase }], guard := none }) (v := .bool o1) rfl (by kernel_rfl) (by kernel_rfl) (by kernel_rfl) (fun _ _ _ h => h) (Or.inl ⟨by rfl, ?_⟩) (by assumption) ?_
  · intro z hz
    go_simp
  try simp only [Act.put, List.setIfInBounds_toArray, List.set_cons_zero, List.set_cons_succ]
  refine wpAnyH_done (by kernel_rfl) ?_ _
  obtain ⟨s1, s2, s3⟩ := hS
  generalize (W0.drew.alloc (.cells Z40 83)).setRow W0.drew.heap.size r1 = W1 at *
  go_wp2_with fail
  refine wp_region_held_drew (S := (fun u => Below w.heap.size w u ∧ u.heap[b5]? = some (.cells k.toArray 59 (0, 0)) ∧ b5 < u.heap.size)) (by kernel_rfl) (⟨s1.drew, s2, s3⟩) ?_
  intro hS
  refine wpAnyH_take (i := 0) (oi := { dst := some 32, op := Op.move (Operand.tmp 0), type := 24, pos := "trip.go:54", after := #[], guard := none }) (v := .pointer (some ⟨tb, 0, none⟩)) rfl (by kernel_rfl) (by kernel_rfl) (by kernel_rfl) (fun _ _ _ h => h) (Or.inl ⟨by rfl, ?_⟩) (by assumption) ?_
  · intro z hz
    go_simp
  try simp only [Act.put, List.setIfInBounds_toArray, List.set_cons_zero, List.set_cons_succ]
  refine wpAnyH_take (i := 1) (oi := { dst := some 33, op := Op.nilCheck (Operand.tmp 32), type := 0, pos := "trip.go:54", after := #[{ on := 0, ground := Ground.data }], guard := none }) (v := .pointer (some ⟨tb, 0, none⟩)) rfl (by kernel_rfl) (by kernel_rfl) (by kernel_rfl) (fun _ _ _ h => h) (Or.inl ⟨by rfl, ?_⟩) (by assumption) ?_
  · intro z hz
    go_simp
  try simp only [Act.put, List.setIfInBounds_toArray, List.set_cons_zero, List.set_cons_succ]
  refine wpAnyH_take (i := 2) (oi := { dst := some 34, op := Op.fieldAddr 75 (Operand.tmp 33) 3, type := 0, pos := "trip.go:54", after := #[{ on := 1, ground := Ground.data }], guard := none }) (v := .pointer (some ⟨tb, 3, none⟩)) rfl (by kernel_rfl) (by kernel_rfl) (by kernel_rfl) (fun _ _ _ h => h) (Or.inl ⟨by rfl, ?_⟩) (by assumption) ?_
  · intro z hz
    go_simp
  try simp only [Act.put, List.setIfInBounds_toArray, List.set_cons_zero, List.set_cons_succ]
  refine wpAnyH_take (i := 3) (oi := { dst := some 35, op := Op.load 72 (Operand.tmp 34), type := 72, pos := "trip.go:54", after := #[{ on := 2, ground := Ground.data }], guard := none }) (v := .map (some b2)) rfl (by kernel_rfl) (by kernel_rfl) (by kernel_rfl) (fun _ _ _ h => h) (Or.inl ⟨by rfl, ?_⟩) (by assumption) ?_
  · intro z hz
    have c := (hz.1.cell (p := ⟨tb, 3, none⟩) ltb).trans c3
    go_simp
  try simp only [Act.put, List.setIfInBounds_toArray, List.set_cons_zero, List.set_cons_succ]
  refine wpAnyH_take (i := 4) (oi := { dst := some 36, op := Op.fieldAddr 59 (Operand.tmp 5) 0, type := 0, pos := "trip.go:54", after := #[], guard := none }) (v := .pointer (some ⟨b5, 0, none⟩)) rfl (by kernel_rfl) (by kernel_rfl) (by kernel_rfl) (fun _ _ _ h => h) (Or.inl ⟨by rfl, ?_⟩) (by assumption) ?_
  · intro z hz
    go_simp
  try simp only [Act.put, List.setIfInBounds_toArray, List.set_cons_zero, List.set_cons_succ]
  refine wpAnyH_take (i := 5) (oi := { dst := some 37, op := Op.load 57 (Operand.tmp 36), type := 57, pos := "trip.go:54", after := #[{ on := 4, ground := Ground.data }], guard := none }) (v := .agg (k.take 8).toArray) rfl (by kernel_rfl) (by kernel_rfl) (by kernel_rfl) (fun _ _ _ h => h) (yieldsIf_load_mid (by rfl) 57 _ (by rfl) b5 0 (by rfl) (k.take 8) _ (fun u hu => range_sub hu.2.1 0 (a := []) (cs := k.take 8) (z := k.drop 8) (by rw [List.nil_append, List.take_append_drop]) rfl) Tryz.underlying57 rfl (by rw [hkt8.1]; exact size23)) (by assumption) ?_
  try simp only [Act.put, List.setIfInBounds_toArray, List.set_cons_zero, List.set_cons_succ]
  refine wpAnyH_take (i := 6) (oi := { dst := some 38, op := Op.lookup 72 (Operand.tmp 35) (Operand.tmp 37) true, type := 88, pos := "trip.go:54", after := #[{ on := 3, ground := Ground.data }, { on := 5, ground := Ground.data }], guard := none }) (v := .tuple #[.agg r2, .bool o2]) rfl (by kernel_rfl) (by kernel_rfl) (by kernel_rfl) (fun _ _ _ h => h) (yields_lookup (by rfl) 72 _ _ true (by rfl) (.map (some b2)) (.agg (k.take 8).toArray) _ (by rfl) (by rfl) (fun u hu => H2.out u hu.1)) (by assumption) ?_
  try simp only [Act.put, List.setIfInBounds_toArray, List.set_cons_zero, List.set_cons_succ]
  refine wpAnyH_take (i := 7) (oi := { dst := some 31, op := Op.move (Operand.tmp 38), type := 88, pos := "trip.go:54", after := #[{ on := 6, ground := Ground.data }], guard := none }) (v := .tuple #[.agg r2, .bool o2]) rfl (by kernel_rfl) (by kernel_rfl) (by kernel_rfl) (fun _ _ _ h => h) (Or.inl ⟨by rfl, ?_⟩) (by assumption) ?_
  · intro z hz
    go_simp
  try simp only [Act.put, List.setIfInBounds_toArray, List.set_cons_zero, List.set_cons_succ]
  refine wpAnyH_take (i := 8) (oi := { dst := some 39, op := Op.extract (Operand.tmp 31) 0, type := 59, pos := "trip.go:54", after := #[{ on := 7, ground := Ground.data }], guard := none }) (v := .agg r2) rfl (by kernel_rfl) (by kernel_rfl) (by kernel_rfl) (fun _ _ _ h => h) (Or.inl ⟨by rfl, ?_⟩) (by assumption) ?_
  · intro z hz
    go_simp
  try simp only [Act.put, List.setIfInBounds_toArray, List.set_cons_zero, List.set_cons_succ]
  refine wpAnyH_take (i := 9) (oi := { dst := some 40, op := Op.extract (Operand.tmp 31) 1, type := 4, pos := "trip.go:54", after := #[{ on := 7, ground := Ground.data }, { on := 11, ground := Ground.gcOnly Departure.lateStores }], guard := none }) (v := .bool o2) rfl (by kernel_rfl) (by kernel_rfl) (by kernel_rfl) (fun _ _ _ h => h) (Or.inl ⟨by rfl, ?_⟩) (by assumption) ?_
  · intro z hz
    go_simp
  try simp only [Act.put, List.setIfInBounds_toArray, List.set_cons_zero, List.set_cons_succ]
  refine wpAnyH_ready (rs := [10]) (by kernel_rfl) (by simp) ?_
  refine AllReadyH.cons (o := { dst := some 10, op := Op.alloc 59, type := 0, pos := "trip.go:54", after := #[], guard := none }) rfl (fun K hK => ?_) AllReadyH.nil
  rw [if_pos (by rfl)]
  refine wp_allocz 59 (by rfl) Z25 16 zero25 ?_
  refine hK.out _ _ (⟨hS.1.alloc hS.1.size _, (Below.heap_alloc _ _ _ hS.2.2).trans hS.2.1, by have := hS.2.2; simp <;> omega⟩) ?_
  clear hK K
  intro hS
  try simp only [Act.put, List.setIfInBounds_toArray, List.set_cons_zero, List.set_cons_succ]
  refine wpAnyH_ready (rs := [11]) (by kernel_rfl) (by simp) ?_
  refine AllReadyH.cons (o := { dst := none, op := Op.store 59 (Operand.tmp 10) (Operand.tmp 39), type := 0, pos := "trip.go:54", after := #[{ on := 10, ground := Ground.data }, { on := 8, ground := Ground.data }, { on := 0, ground := Ground.phase }, { on := 1, ground := Ground.phase }, { on := 2, ground := Ground.phase }, { on := 3, ground := Ground.phase }, { on := 4, ground := Ground.phase }, { on := 5, ground := Ground.phase }, { on := 6, ground := Ground.phase }, { on := 7, ground := Ground.phase }, { on := 8, ground := Ground.phase }, { on := 9, ground := Ground.textOnly Departure.lateStores }, { on := 10, ground := Ground.phase }], guard := none }) rfl (fun K hK => ?_) AllReadyH.nil
  rw [if_pos (by rfl)]
  refine wp_storerow 59 _ _ (by rfl) _ (by rfl) Z25 r2 (by rfl) (heap_last _ _) (by rw [z2]; exact size25) (z25s.trans z2.symm) e2 ?_
  refine hK.out _ _ (⟨Below.setRow hS.1 (by have := B5.out; omega) _, (setRow_other _ _ _ _ (by have := B5.out; omega)).trans hS.2.1, by have := hS.2.2; simp at this ⊢ <;> omega⟩) ?_
  clear hK K
  intro hS
  try simp only [Act.put, List.setIfInBounds_toArray, List.set_cons_zero, List.set_cons_succ]
  refine wpAnyH_take (i := 12) (oi := { dst := some 11, op := Op.assign (Operand.tmp 40), type := 4, pos := "trip.go:54", after := #[{ on := 9, ground := Ground.data }, { on := 11, ground := Ground.chain }, { on := 0, ground := Ground.phase }, { on := 1, ground := Ground.phase }, { on := 2, ground := Ground.phase }, { on := 3, ground := Ground.phase }, { on := 4, ground := Ground.phase }, { on := 5, ground := Ground.phase }, { on := 6, ground := Ground.phase }, { on := 7, ground := Ground.phase }, { on := 8, ground := Ground.phase }, { on := 9, ground := Ground.phase }, { on := 10, ground := Ground.phase }, { on := 11, ground := Ground.phase }], guard := none }) (v := .bool o2) rfl (by kernel_rfl) (by kernel_rfl) (by kernel_rfl) (fun _ _ _ h => h) (Or.inl ⟨by rfl, ?_⟩) (by assumption) ?_
  · intro z hz
    go_simp
  try simp only [Act.put, List.setIfInBounds_toArray, List.set_cons_zero, List.set_cons_succ]
  refine wpAnyH_done (by kernel_rfl) ?_ _
  obtain ⟨s1, s2, s3⟩ := hS
  generalize (W1.drew.alloc (.cells Z25 59)).setRow W1.drew.heap.size r2 = W2 at *
  go_wp2_with fail
  refine wp_region_held_drew (S := (fun u => Below w.heap.size w u ∧ u.heap[b5]? = some (.cells k.toArray 59 (0, 0)) ∧ b5 < u.heap.size)) (by kernel_rfl) (⟨s1.drew, s2, s3⟩) ?_
  intro hS
  refine wpAnyH_take (i := 0) (oi := { dst := some 42, op := Op.move (Operand.tmp 0), type := 24, pos := "trip.go:55", after := #[], guard := none }) (v := .pointer (some ⟨tb, 0, none⟩)) rfl (by kernel_rfl) (by kernel_rfl) (by kernel_rfl) (fun _ _ _ h => h) (Or.inl ⟨by rfl, ?_⟩) (by assumption) ?_
  · intro z hz
    go_simp
  try simp only [Act.put, List.setIfInBounds_toArray, List.set_cons_zero, List.set_cons_succ]
  refine wpAnyH_take (i := 1) (oi := { dst := some 43, op := Op.nilCheck (Operand.tmp 42), type := 0, pos := "trip.go:55", after := #[{ on := 0, ground := Ground.data }], guard := none }) (v := .pointer (some ⟨tb, 0, none⟩)) rfl (by kernel_rfl) (by kernel_rfl) (by kernel_rfl) (fun _ _ _ h => h) (Or.inl ⟨by rfl, ?_⟩) (by assumption) ?_
  · intro z hz
    go_simp
  try simp only [Act.put, List.setIfInBounds_toArray, List.set_cons_zero, List.set_cons_succ]
  refine wpAnyH_take (i := 2) (oi := { dst := some 44, op := Op.fieldAddr 75 (Operand.tmp 43) 4, type := 0, pos := "trip.go:55", after := #[{ on := 1, ground := Ground.data }], guard := none }) (v := .pointer (some ⟨tb, 4, none⟩)) rfl (by kernel_rfl) (by kernel_rfl) (by kernel_rfl) (fun _ _ _ h => h) (Or.inl ⟨by rfl, ?_⟩) (by assumption) ?_
  · intro z hz
    go_simp
  try simp only [Act.put, List.setIfInBounds_toArray, List.set_cons_zero, List.set_cons_succ]
  refine wpAnyH_take (i := 3) (oi := { dst := some 45, op := Op.load 72 (Operand.tmp 44), type := 72, pos := "trip.go:55", after := #[{ on := 2, ground := Ground.data }], guard := none }) (v := .map (some b3)) rfl (by kernel_rfl) (by kernel_rfl) (by kernel_rfl) (fun _ _ _ h => h) (Or.inl ⟨by rfl, ?_⟩) (by assumption) ?_
  · intro z hz
    have c := (hz.1.cell (p := ⟨tb, 4, none⟩) ltb).trans c4
    go_simp
  try simp only [Act.put, List.setIfInBounds_toArray, List.set_cons_zero, List.set_cons_succ]
  refine wpAnyH_take (i := 4) (oi := { dst := some 46, op := Op.fieldAddr 59 (Operand.tmp 5) 1, type := 0, pos := "trip.go:55", after := #[], guard := none }) (v := .pointer (some ⟨b5, 8, none⟩)) rfl (by kernel_rfl) (by kernel_rfl) (by kernel_rfl) (fun _ _ _ h => h) (Or.inl ⟨by rfl, ?_⟩) (by assumption) ?_
  · intro z hz
    go_simp
  try simp only [Act.put, List.setIfInBounds_toArray, List.set_cons_zero, List.set_cons_succ]
  refine wpAnyH_take (i := 5) (oi := { dst := some 47, op := Op.load 57 (Operand.tmp 46), type := 57, pos := "trip.go:55", after := #[{ on := 4, ground := Ground.data }], guard := none }) (v := .agg (k.drop 8).toArray) rfl (by kernel_rfl) (by kernel_rfl) (by kernel_rfl) (fun _ _ _ h => h) (yieldsIf_load_mid (by rfl) 57 _ (by rfl) b5 8 (by rfl) (k.drop 8) _ (fun u hu => range_sub hu.2.1 8 (a := k.take 8) (cs := k.drop 8) (z := []) (by rw [List.append_nil, List.take_append_drop]) (by rw [List.length_take, hk.1]; rfl)) Tryz.underlying57 rfl (by rw [hkd.1]; exact size23)) (by assumption) ?_
  try simp only [Act.put, List.setIfInBounds_toArray, List.set_cons_zero, List.set_cons_succ]
  refine wpAnyH_take (i := 6) (oi := { dst := some 48, op := Op.lookup 72 (Operand.tmp 45) (Operand.tmp 47) true, type := 88, pos := "trip.go:55", after := #[{ on := 3, ground := Ground.data }, { on := 5, ground := Ground.data }], guard := none }) (v := .tuple #[.agg r3, .bool o3]) rfl (by kernel_rfl) (by kernel_rfl) (by kernel_rfl) (fun _ _ _ h => h) (yields_lookup (by rfl) 72 _ _ true (by rfl) (.map (some b3)) (.agg (k.drop 8).toArray) _ (by rfl) (by rfl) (fun u hu => H3.out u hu.1)) (by assumption) ?_
  try simp only [Act.put, List.setIfInBounds_toArray, List.set_cons_zero, List.set_cons_succ]
  refine wpAnyH_take (i := 7) (oi := { dst := some 41, op := Op.move (Operand.tmp 48), type := 88, pos := "trip.go:55", after := #[{ on := 6, ground := Ground.data }], guard := none }) (v := .tuple #[.agg r3, .bool o3]) rfl (by kernel_rfl) (by kernel_rfl) (by kernel_rfl) (fun _ _ _ h => h) (Or.inl ⟨by rfl, ?_⟩) (by assumption) ?_
  · intro z hz
    go_simp
  try simp only [Act.put, List.setIfInBounds_toArray, List.set_cons_zero, List.set_cons_succ]
  refine wpAnyH_take (i := 8) (oi := { dst := some 49, op := Op.extract (Operand.tmp 41) 0, type := 59, pos := "trip.go:55", after := #[{ on := 7, ground := Ground.data }], guard := none }) (v := .agg r3) rfl (by kernel_rfl) (by kernel_rfl) (by kernel_rfl) (fun _ _ _ h => h) (Or.inl ⟨by rfl, ?_⟩) (by assumption) ?_
  · intro z hz
    go_simp
  try simp only [Act.put, List.setIfInBounds_toArray, List.set_cons_zero, List.set_cons_succ]
  refine wpAnyH_take (i := 9) (oi := { dst := some 50, op := Op.extract (Operand.tmp 41) 1, type := 4, pos := "trip.go:55", after := #[{ on := 7, ground := Ground.data }, { on := 11, ground := Ground.gcOnly Departure.lateStores }], guard := none }) (v := .bool o3) rfl (by kernel_rfl) (by kernel_rfl) (by kernel_rfl) (fun _ _ _ h => h) (Or.inl ⟨by rfl, ?_⟩) (by assumption) ?_
  · intro z hz
    go_simp
  try simp only [Act.put, List.setIfInBounds_toArray, List.set_cons_zero, List.set_cons_succ]
  refine wpAnyH_ready (rs := [10]) (by kernel_rfl) (by simp) ?_
  refine AllReadyH.cons (o := { dst := some 12, op := Op.alloc 59, type := 0, pos := "trip.go:55", after := #[], guard := none }) rfl (fun K hK => ?_) AllReadyH.nil
  rw [if_pos (by rfl)]
  refine wp_allocz 59 (by rfl) Z25 16 zero25 ?_
  refine hK.out _ _ (⟨hS.1.alloc hS.1.size _, (Below.heap_alloc _ _ _ hS.2.2).trans hS.2.1, by have := hS.2.2; simp <;> omega⟩) ?_
  clear hK K
  intro hS
  try simp only [Act.put, List.setIfInBounds_toArray, List.set_cons_zero, List.set_cons_succ]
  refine wpAnyH_ready (rs := [11]) (by kernel_rfl) (by simp) ?_
  refine AllReadyH.cons (o := { dst := none, op := Op.store 59 (Operand.tmp 12) (Operand.tmp 49), type := 0, pos := "trip.go:55", after := #[{ on := 10, ground := Ground.data }, { on := 8, ground := Ground.data }, { on := 0, ground := Ground.phase }, { on := 1, ground := Ground.phase }, { on := 2, ground := Ground.phase }, { on := 3, ground := Ground.phase }, { on := 4, ground := Ground.phase }, { on := 5, ground := Ground.phase }, { on := 6, ground := Ground.phase }, { on := 7, ground := Ground.phase }, { on := 8, ground := Ground.phase }, { on := 9, ground := Ground.textOnly Departure.lateStores }, { on := 10, ground := Ground.phase }], guard := none }) rfl (fun K hK => ?_) AllReadyH.nil
  rw [if_pos (by rfl)]
  refine wp_storerow 59 _ _ (by rfl) _ (by rfl) Z25 r3 (by rfl) (heap_last _ _) (by rw [z3]; exact size25) (z25s.trans z3.symm) e3 ?_
  refine hK.out _ _ (⟨Below.setRow hS.1 (by have := B5.out; omega) _, (setRow_other _ _ _ _ (by have := B5.out; omega)).trans hS.2.1, by have := hS.2.2; simp at this ⊢ <;> omega⟩) ?_
  clear hK K
  intro hS
  try simp only [Act.put, List.setIfInBounds_toArray, List.set_cons_zero, List.set_cons_succ]
  refine wpAnyH_take (i := 12) (oi := { dst := some 13, op := Op.assign (Operand.tmp 50), type := 4, pos := "trip.go:55", after := #[{ on := 9, ground := Ground.data }, { on := 11, ground := Ground.chain }, { on := 0, ground := Ground.phase }, { on := 1, ground := Ground.phase }, { on := 2, ground := Ground.phase }, { on := 3, ground := Ground.phase }, { on := 4, ground := Ground.phase }, { on := 5, ground := Ground.phase }, { on := 6, ground := Ground.phase }, { on := 7, ground := Ground.phase }, { on := 8, ground := Ground.phase }, { on := 9, ground := Ground.phase }, { on := 10, ground := Ground.phase }, { on := 11, ground := Ground.phase }], guard := none }) (v := .bool o3) rfl (by kernel_rfl) (by kernel_rfl) (by kernel_rfl) (fun _ _ _ h => h) (Or.inl ⟨by rfl, ?_⟩) (by assumption) ?_
  · intro z hz
    go_simp
  try simp only [Act.put, List.setIfInBounds_toArray, List.set_cons_zero, List.set_cons_succ]
  refine wpAnyH_done (by kernel_rfl) ?_ _
  obtain ⟨s1, s2, s3⟩ := hS
  generalize (W2.drew.alloc (.cells Z25 59)).setRow W2.drew.heap.size r3 = W3 at *
  subst ho1 ho2 ho3
  clear e1 e2 e3 z1 z2 z3 H1 H2 H3
  have hr0 : (Tr.cells ⟨k, 1, [0, 0, 0, 0, 0, 0]⟩).length = 23 := by rw [Tr.cells]; simp [hk.1]
  have ho0 : (Tr.cells ⟨k, 1, [0, 0, 0, 0, 0, 0]⟩).toArray.all (·.oneCell') = true := all_oneCell_toArray (Tr.ok.one ⟨hk, (by decide : (Lit.int .u8 1).wf = true), rfl, (by decide : ∀ x ∈ ([0, 0, 0, 0, 0, 0] : List Int), (Lit.int .i64 x).wf = true)⟩)
  go_wp2_with (first
    | (refine wpList_loadrow rfl 59 _ (by rfl) b5 (by rfl) k.toArray 59 _ s2 Tryz.underlying59 rfl (by rw [List.size_toArray, hk.1]; exact size25) ?_)
    | (refine wpList_build2 rfl 83 _ _ (by rfl) (.agg k.toArray) (.int .u8 1) (.agg (Tr.cells ⟨k, 1, [0, 0, 0, 0, 0, 0]⟩).toArray) (by rfl) (by rfl) (build40k hk) ?_)
    | (refine wpList_allocz rfl 83 (by rfl) Z40 23 zero40 ?_)
    | (refine wpList_storerow rfl 83 _ _ (by rfl) W3.heap.size (by rfl) Z40 (Tr.cells ⟨k, 1, [0, 0, 0, 0, 0, 0]⟩).toArray (by rfl) (heap_last W3 _) (by simp only [List.size_toArray]; rw [hr0]; exact size40) (z40s.trans (by simp only [List.size_toArray]; rw [hr0])) ho0 ?_))
  have t1 : Below w.heap.size w ((W3.alloc (.cells Z40 83)).setRow W3.heap.size (Tr.cells ⟨k, 1, [0, 0, 0, 0, 0, 0]⟩).toArray) := Below.setRow (s1.alloc s1.size _) s1.size _
  have t2 : ((W3.alloc (.cells Z40 83)).setRow W3.heap.size (Tr.cells ⟨k, 1, [0, 0, 0, 0, 0, 0]⟩).toArray).heap[b5]? = some (.cells k.toArray 59 (0, 0)) := ((setRow_other _ _ _ _ (by omega)).trans (Below.heap_alloc _ _ _ s3)).trans s2
  have t3 : ((W3.alloc (.cells Z40 83)).setRow W3.heap.size (Tr.cells ⟨k, 1, [0, 0, 0, 0, 0, 0]⟩).toArray).heap[W3.heap.size]? = some (.cells (Tr.cells ⟨k, 1, [0, 0, 0, 0, 0, 0]⟩).toArray 83 (0, 0)) := setRow_heap _ _ _ _ _ _ (heap_last W3 _)
  have B14 := Lib.hid (show w.heap.size ≤ W3.heap.size from s1.size)
  have B514 := Lib.hid (show b5 ≠ W3.heap.size by omega)
  generalize (W3.alloc (.cells Z40 83)).setRow W3.heap.size (Tr.cells ⟨k, 1, [0, 0, 0, 0, 0, 0]⟩).toArray = W4 at *
  generalize W3.heap.size = b14 at *
  clear s1 s2 s3 hr0 ho0
  go_loopg [60] 6 (fun gk v60 wr => ∃ j : Nat, j + gk = 6 ∧ v60 = .int .i64 j ∧ Below w.heap.size w wr ∧ wr.heap[b5]? = some (.cells k.toArray 59 (0, 0)) ∧ wr.heap[b14]? = some (.cells (Tr.cells ⟨k, 1, List.replicate j (-1) ++ List.replicate (6 - j) 0⟩).toArray 83 (0, 0)))
  case atStart => exact ⟨0, by omega, rfl, t1, t2, t3⟩
  case round =>
    obtain ⟨j, hj, rfl, s1, s2, s3⟩ := hrel
    clear t1 t2 t3
    by_cases hlt : j < 6
    · have hsz : 17 + j < (Tr.cells ⟨k, 1, List.replicate j (-1) ++ List.replicate (6 - j) 0⟩).toArray.size := by
        simp only [List.size_toArray, Tr.cells, List.length_append, List.length_cons, List.length_map, List.length_replicate, hk.1]; omega
      have HZ := Lib.hid hsz
      clear hsz
      go_wp2_with (refine wpList_store1 rfl 3 _ _ (by rfl) b14 (17 + j) (by rfl) (.int .i64 (-1)) (by rfl) s3 HZ.out size3 rfl rfl ?_)
      go_roundg (gk - 1)
      case measure => omega
      case rel =>
        refine ⟨j + 1, by omega, by go_num, Below.setRow s1 B14.out _, (setRow_other _ _ _ _ B514.out).trans s2, ?_⟩
        have := setRow_heap _ _ _ ((Tr.cells ⟨k, 1, List.replicate j (-1) ++ List.replicate (6 - j) 0⟩).toArray.setIfInBounds (17 + j) (.int .i64 (-1))) _ _ s3
        rw [cells_times hk, times_step hlt] at this
        have E := cells_times hk 1 (List.replicate j (-1) ++ List.replicate (6 - j) 0) j (-1)
        rw [List.setIfInBounds_toArray] at E
        rw [E, times_step hlt]
        exact this
    · have ej : j = 6 := by omega
      subst ej
      clear hj hlt
      have s3' : wr.heap[b14]? = some (.cells (Tr.cells ⟨k, 1, [-1, -1, -1, -1, -1, -1]⟩).toArray 83 (0, 0)) := s3
      clear s3
      have hsz : 18 < (Tr.cells ⟨k, 1, [-1, -1, -1, -1, -1, -1]⟩).toArray.size := by
        simp only [List.size_toArray, Tr.cells, List.length_append, List.length_cons, List.length_map, hk.1]; simp
      have HZ := Lib.hid hsz
      clear hsz
      have ES := Lib.hid (show (Tr.cells ⟨k, 1, [-1, -1, -1, -1, -1, -1]⟩).toArray.setIfInBounds 18 (.int .i64 tick) = (newTr k tick).cells.toArray from cells_times hk 1 [-1, -1, -1, -1, -1, -1] 1 tick)
      go_wp2_with (refine wpList_store1 rfl 3 _ _ (by rfl) b14 18 (by rfl) (.int .i64 tick) (by rfl) s3' HZ.out size3 rfl rfl ?_; rw [ES.out])
      have t1 : Lies F w (wr.setRow b14 (newTr k tick).cells.toArray) := (Lies.of_below s1).setRow (.inr B14.out) _
      have o5 : ∀ j, j < w.heap.size → (wr.setRow b14 (newTr k tick).cells.toArray).heap[j]? = w.heap[j]? := fun j hj => (setRow_other _ _ _ _ (by have := B14.out; omega)).trans (s1.block j hj)
      have t2 : (wr.setRow b14 (newTr k tick).cells.toArray).heap[b5]? = some (.cells k.toArray 59 (0, 0)) := (setRow_other _ _ _ _ B514.out).trans s2
      have t3 : (wr.setRow b14 (newTr k tick).cells.toArray).heap[b14]? = some (.cells (newTr k tick).cells.toArray 83 (0, 0)) := setRow_heap _ _ _ _ _ _ s3'
      have s4 := (o5 tb ltb).trans h.hd
      clear s1 s2 s3' ES HZ
      generalize wr.setRow b14 (newTr k tick).cells.toArray = W5 at *
      have s1 := t1
      have s2 := t2
      have s3 := t3
      clear t1 t2 t3
      have hrl : (newTr k tick).cells.length = 23 := by rw [newTr, Tr.cells]; simp [hk.1]
      obtain ⟨kl, hkl⟩ := key_j hk
      obtain ⟨klt, hklt⟩ := key_id hkt8
      obtain ⟨kld, hkld⟩ := key_id hkd
      have KL := Lib.hid hkl
      have KLT := Lib.hid hklt
      have KLD := Lib.hid hkld
      clear hkl hklt hkld
      have m1 := (h.m1.of_block (o5 b1 h.m1.lt)).of_block (w' := W5.drew) rfl
      have m2 := (h.m2.of_block (o5 b2 h.m2.lt)).of_block (w' := W5.drew) rfl
      have m3 := (h.m3.of_block (o5 b3 h.m3.lt)).of_block (w' := W5.drew) rfl
      have no1 : ∀ v, ¬ f1 q.l (.agg k.toArray) v := fun v ⟨t, ht, e, _⟩ => hno1.out t ht (agg_inj.1 e).symm
      have no2 : ∀ v, ¬ f2 q.l (.agg (k.take 8).toArray) v := fun v ⟨t, ht, ho, e, _⟩ => hno2.out t ht ho (agg_inj.1 e).symm
      have no3 : ∀ v, ¬ f3 q.l (.agg (k.drop 8).toArray) v := fun v ⟨t, ht, ho, e, _⟩ => hno3.out t ht ho (agg_inj.1 e).symm
      refine wp_region_held_drew (S := (fun u => Lies F w u ∧ u.heap[b5]? = some (.cells k.toArray 59 (0, 0)) ∧ u.heap[b14]? = some (.cells (newTr k tick).cells.toArray 83 (0, 0)) ∧ u.heap[tb]? = some (.cells #[.int .i64 q.clock, ov, .map (some b1), .map (some b2), .map (some b3)] 75 (0, 0)))) (by kernel_rfl) (⟨s1.drew, s2, s3, s4⟩) ?_
      intro hS
      refine wpAnyH_take (i := 0) (oi := { dst := some 70, op := Op.move (Operand.tmp 0), type := 24, pos := "trip.go:64", after := #[], guard := none }) (v := .pointer (some ⟨tb, 0, none⟩)) rfl (by kernel_rfl) (by kernel_rfl) (by kernel_rfl) (fun _ _ _ h => h) (Or.inl ⟨by rfl, ?_⟩) (by assumption) ?_
      · intro z hz
        go_simp
      try simp only [Act.put, List.setIfInBounds_toArray, List.set_cons_zero, List.set_cons_succ]
      refine wpAnyH_take (i := 1) (oi := { dst := some 71, op := Op.nilCheck (Operand.tmp 70), type := 0, pos := "trip.go:64", after := #[{ on := 0, ground := Ground.data }], guard := none }) (v := .pointer (some ⟨tb, 0, none⟩)) rfl (by kernel_rfl) (by kernel_rfl) (by kernel_rfl) (fun _ _ _ h => h) (Or.inl ⟨by rfl, ?_⟩) (by assumption) ?_
      · intro z hz
        go_simp
      try simp only [Act.put, List.setIfInBounds_toArray, List.set_cons_zero, List.set_cons_succ]
      refine wpAnyH_take (i := 2) (oi := { dst := some 72, op := Op.fieldAddr 75 (Operand.tmp 71) 2, type := 0, pos := "trip.go:64", after := #[{ on := 1, ground := Ground.data }], guard := none }) (v := .pointer (some ⟨tb, 2, none⟩)) rfl (by kernel_rfl) (by kernel_rfl) (by kernel_rfl) (fun _ _ _ h => h) (Or.inl ⟨by rfl, ?_⟩) (by assumption) ?_
      · intro z hz
        go_simp
      try simp only [Act.put, List.setIfInBounds_toArray, List.set_cons_zero, List.set_cons_succ]
      refine wpAnyH_take (i := 3) (oi := { dst := some 73, op := Op.load 71 (Operand.tmp 72), type := 71, pos := "trip.go:64", after := #[{ on := 2, ground := Ground.data }], guard := none }) (v := .map (some b1)) rfl (by kernel_rfl) (by kernel_rfl) (by kernel_rfl) (fun _ _ _ h => h) (Or.inl ⟨by rfl, ?_⟩) (by assumption) ?_
      · intro z hz
        have c := cell_of_row z tb 2 _ _ _ hz.2.2.2
        replace c : z.cell? ⟨tb, 2, none⟩ = some (.map (some b1)) := c
        go_simp
      try simp only [Act.put, List.setIfInBounds_toArray, List.set_cons_zero, List.set_cons_succ]
      refine wpAnyH_take (i := 4) (oi := { dst := some 74, op := Op.load 59 (Operand.tmp 5), type := 59, pos := "trip.go:64", after := #[], guard := none }) (v := .agg k.toArray) rfl (by kernel_rfl) (by kernel_rfl) (by kernel_rfl) (fun _ _ _ h => h) (yields_loadrow (by rfl) 59 _ (by rfl) b5 (by rfl) k.toArray 59 _ (fun u hu => hu.2.1) Tryz.underlying59 rfl (by rw [List.size_toArray, hk.1]; exact size25)) (by assumption) ?_
      try simp only [Act.put, List.setIfInBounds_toArray, List.set_cons_zero, List.set_cons_succ]
      refine wpAnyH_take (i := 5) (oi := { dst := some 75, op := Op.move (Operand.tmp 0), type := 24, pos := "trip.go:64", after := #[], guard := none }) (v := .pointer (some ⟨tb, 0, none⟩)) rfl (by kernel_rfl) (by kernel_rfl) (by kernel_rfl) (fun _ _ _ h => h) (Or.inl ⟨by rfl, ?_⟩) (by assumption) ?_
      · intro z hz
        go_simp
      try simp only [Act.put, List.setIfInBounds_toArray, List.set_cons_zero, List.set_cons_succ]
      refine wpAnyH_take (i := 6) (oi := { dst := some 76, op := Op.nilCheck (Operand.tmp 75), type := 0, pos := "trip.go:64", after := #[{ on := 5, ground := Ground.data }], guard := none }) (v := .pointer (some ⟨tb, 0, none⟩)) rfl (by kernel_rfl) (by kernel_rfl) (by kernel_rfl) (fun _ _ _ h => h) (Or.inl ⟨by rfl, ?_⟩) (by assumption) ?_
      · intro z hz
        go_simp
      try simp only [Act.put, List.setIfInBounds_toArray, List.set_cons_zero, List.set_cons_succ]
      refine wpAnyH_take (i := 7) (oi := { dst := some 77, op := Op.fieldAddr 75 (Operand.tmp 76) 3, type := 0, pos := "trip.go:64", after := #[{ on := 6, ground := Ground.data }], guard := none }) (v := .pointer (some ⟨tb, 3, none⟩)) rfl (by kernel_rfl) (by kernel_rfl) (by kernel_rfl) (fun _ _ _ h => h) (Or.inl ⟨by rfl, ?_⟩) (by assumption) ?_
      · intro z hz
        go_simp
      try simp only [Act.put, List.setIfInBounds_toArray, List.set_cons_zero, List.set_cons_succ]
      refine wpAnyH_take (i := 8) (oi := { dst := some 78, op := Op.load 72 (Operand.tmp 77), type := 72, pos := "trip.go:64", after := #[{ on := 7, ground := Ground.data }], guard := none }) (v := .map (some b2)) rfl (by kernel_rfl) (by kernel_rfl) (by kernel_rfl) (fun _ _ _ h => h) (Or.inl ⟨by rfl, ?_⟩) (by assumption) ?_
      · intro z hz
        have c := cell_of_row z tb 3 _ _ _ hz.2.2.2
        replace c : z.cell? ⟨tb, 3, none⟩ = some (.map (some b2)) := c
        go_simp
      try simp only [Act.put, List.setIfInBounds_toArray, List.set_cons_zero, List.set_cons_succ]
      refine wpAnyH_take (i := 9) (oi := { dst := some 79, op := Op.fieldAddr 59 (Operand.tmp 5) 0, type := 0, pos := "trip.go:64", after := #[], guard := none }) (v := .pointer (some ⟨b5, 0, none⟩)) rfl (by kernel_rfl) (by kernel_rfl) (by kernel_rfl) (fun _ _ _ h => h) (Or.inl ⟨by rfl, ?_⟩) (by assumption) ?_
      · intro z hz
        go_simp
      try simp only [Act.put, List.setIfInBounds_toArray, List.set_cons_zero, List.set_cons_succ]
      refine wpAnyH_take (i := 10) (oi := { dst := some 80, op := Op.load 57 (Operand.tmp 79), type := 57, pos := "trip.go:64", after := #[{ on := 9, ground := Ground.data }], guard := none }) (v := .agg (k.take 8).toArray) rfl (by kernel_rfl) (by kernel_rfl) (by kernel_rfl) (fun _ _ _ h => h) (yieldsIf_load_mid (by rfl) 57 _ (by rfl) b5 0 (by rfl) (k.take 8) _ (fun u hu => range_sub hu.2.1 0 (a := []) (cs := k.take 8) (z := k.drop 8) (by rw [List.nil_append, List.take_append_drop]) rfl) Tryz.underlying57 rfl (by rw [hkt8.1]; exact size23)) (by assumption) ?_
      try simp only [Act.put, List.setIfInBounds_toArray, List.set_cons_zero, List.set_cons_succ]
      refine wpAnyH_take (i := 11) (oi := { dst := some 81, op := Op.move (Operand.tmp 0), type := 24, pos := "trip.go:64", after := #[], guard := none }) (v := .pointer (some ⟨tb, 0, none⟩)) rfl (by kernel_rfl) (by kernel_rfl) (by kernel_rfl) (fun _ _ _ h => h) (Or.inl ⟨by rfl, ?_⟩) (by assumption) ?_
      · intro z hz
        go_simp
      try simp only [Act.put, List.setIfInBounds_toArray, List.set_cons_zero, List.set_cons_succ]
      refine wpAnyH_take (i := 12) (oi := { dst := some 82, op := Op.nilCheck (Operand.tmp 81), type := 0, pos := "trip.go:64", after := #[{ on := 11, ground := Ground.data }], guard := none }) (v := .pointer (some ⟨tb, 0, none⟩)) rfl (by kernel_rfl) (by kernel_rfl) (by kernel_rfl) (fun _ _ _ h => h) (Or.inl ⟨by rfl, ?_⟩) (by assumption) ?_
      · intro z hz
        go_simp
      try simp only [Act.put, List.setIfInBounds_toArray, List.set_cons_zero, List.set_cons_succ]
      refine wpAnyH_take (i := 13) (oi := { dst := some 83, op := Op.fieldAddr 75 (Operand.tmp 82) 4, type := 0, pos := "trip.go:64", after := #[{ on := 12, ground := Ground.data }], guard := none }) (v := .pointer (some ⟨tb, 4, none⟩)) rfl (by kernel_rfl) (by kernel_rfl) (by kernel_rfl) (fun _ _ _ h => h) (Or.inl ⟨by rfl, ?_⟩) (by assumption) ?_
      · intro z hz
        go_simp
      try simp only [Act.put, List.setIfInBounds_toArray, List.set_cons_zero, List.set_cons_succ]
      refine wpAnyH_take (i := 14) (oi := { dst := some 84, op := Op.load 72 (Operand.tmp 83), type := 72, pos := "trip.go:64", after := #[{ on := 13, ground := Ground.data }], guard := none }) (v := .map (some b3)) rfl (by kernel_rfl) (by kernel_rfl) (by kernel_rfl) (fun _ _ _ h => h) (Or.inl ⟨by rfl, ?_⟩) (by assumption) ?_
      · intro z hz
        have c := cell_of_row z tb 4 _ _ _ hz.2.2.2
        replace c : z.cell? ⟨tb, 4, none⟩ = some (.map (some b3)) := c
        go_simp
      try simp only [Act.put, List.setIfInBounds_toArray, List.set_cons_zero, List.set_cons_succ]
      refine wpAnyH_take (i := 15) (oi := { dst := some 85, op := Op.fieldAddr 59 (Operand.tmp 5) 1, type := 0, pos := "trip.go:64", after := #[], guard := none }) (v := .pointer (some ⟨b5, 8, none⟩)) rfl (by kernel_rfl) (by kernel_rfl) (by kernel_rfl) (fun _ _ _ h => h) (Or.inl ⟨by rfl, ?_⟩) (by assumption) ?_
      · intro z hz
        go_simp
      try simp only [Act.put, List.setIfInBounds_toArray, List.set_cons_zero, List.set_cons_succ]
      refine wpAnyH_take (i := 16) (oi := { dst := some 86, op := Op.load 57 (Operand.tmp 85), type := 57, pos := "trip.go:64", after := #[{ on := 15, ground := Ground.data }], guard := none }) (v := .agg (k.drop 8).toArray) rfl (by kernel_rfl) (by kernel_rfl) (by kernel_rfl) (fun _ _ _ h => h) (yieldsIf_load_mid (by rfl) 57 _ (by rfl) b5 8 (by rfl) (k.drop 8) _ (fun u hu => range_sub hu.2.1 8 (a := k.take 8) (cs := k.drop 8) (z := []) (by rw [List.append_nil, List.take_append_drop]) (by rw [List.length_take, hk.1]; rfl)) Tryz.underlying57 rfl (by rw [hkd.1]; exact size23)) (by assumption) ?_
      try simp only [Act.put, List.setIfInBounds_toArray, List.set_cons_zero, List.set_cons_succ]
      refine wpAnyH_take (i := 17) (oi := { dst := some 87, op := Op.load 83 (Operand.tmp 14), type := 83, pos := "trip.go:64", after := #[{ on := 20, ground := Ground.gcOnly Departure.tupleMapEntryFirst }], guard := none }) (v := .agg (newTr k tick).cells.toArray) rfl (by kernel_rfl) (by kernel_rfl) (by kernel_rfl) (fun _ _ _ h => h) (yields_loadrow (by rfl) 83 _ (by rfl) b14 (by rfl) (newTr k tick).cells.toArray 83 _ (fun u hu => hu.2.2.1) Tryz.underlying83 rfl (by simp only [List.size_toArray]; rw [hrl]; exact size40)) (by assumption) ?_
      try simp only [Act.put, List.setIfInBounds_toArray, List.set_cons_zero, List.set_cons_succ]
      refine wpAnyH_take (i := 18) (oi := { dst := some 88, op := Op.load 59 (Operand.tmp 5), type := 59, pos := "trip.go:64", after := #[{ on := 22, ground := Ground.gcOnly Departure.lateStores }, { on := 23, ground := Ground.gcOnly Departure.tupleMapEntryFirst }], guard := none }) (v := .agg k.toArray) rfl (by kernel_rfl) (by kernel_rfl) (by kernel_rfl) (fun _ _ _ h => h) (yields_loadrow (by rfl) 59 _ (by rfl) b5 (by rfl) k.toArray 59 _ (fun u hu => hu.2.1) Tryz.underlying59 rfl (by rw [List.size_toArray, hk.1]; exact size25)) (by assumption) ?_
      try simp only [Act.put, List.setIfInBounds_toArray, List.set_cons_zero, List.set_cons_succ]
      refine wpAnyH_take (i := 19) (oi := { dst := some 89, op := Op.load 59 (Operand.tmp 5), type := 59, pos := "trip.go:64", after := #[{ on := 25, ground := Ground.gcOnly Departure.lateStores }, { on := 26, ground := Ground.gcOnly Departure.tupleMapEntryFirst }], guard := none }) (v := .agg k.toArray) rfl (by kernel_rfl) (by kernel_rfl) (by kernel_rfl) (fun _ _ _ h => h) (yields_loadrow (by rfl) 59 _ (by rfl) b5 (by rfl) k.toArray 59 _ (fun u hu => hu.2.1) Tryz.underlying59 rfl (by rw [List.size_toArray, hk.1]; exact size25)) (by assumption) ?_
      try simp only [Act.put, List.setIfInBounds_toArray, List.set_cons_zero, List.set_cons_succ]
      obtain ⟨st1, u1, hr1, hg1, hs1⟩ := m1.entry law25 Tryz.underlying71 (z := .agg Z40) (zero_of_info zero40).1 (key := .agg k.toArray) KL.out no1
      have p1 : ∀ j, j < w.heap.size → j ≠ b1 → j ≠ b2 → j ≠ b3 → u1.heap[j]? = w.heap[j]? := fun j hj n1 n2 n3 => (hg1.block j (Nat.lt_of_lt_of_le hj hS.1.size) (fun e => n1 (by injection e))).trans ((fun j hj _ _ _ => o5 j hj) j hj n1 n2 n3)
      refine wpAnyH_ready (rs := [20]) (by kernel_rfl) (by simp) ?_
      refine AllReadyH.cons (o := { dst := some 90, op := Op.mapEntry 71 (Operand.tmp 73) (Operand.tmp 74), type := 0, pos := "trip.go:64", after := #[{ on := 3, ground := Ground.data }, { on := 4, ground := Ground.data }, { on := 0, ground := Ground.textOnly Departure.tupleMapEntryFirst }, { on := 1, ground := Ground.textOnly Departure.tupleMapEntryFirst }, { on := 2, ground := Ground.textOnly Departure.tupleMapEntryFirst }, { on := 3, ground := Ground.textOnly Departure.tupleMapEntryFirst }, { on := 4, ground := Ground.textOnly Departure.lateStoresUnsure }, { on := 5, ground := Ground.textOnly Departure.lateStores }, { on := 6, ground := Ground.textOnly Departure.lateStoresUnsure }, { on := 7, ground := Ground.textOnly Departure.lateStoresUnsure }, { on := 8, ground := Ground.phase }, { on := 9, ground := Ground.textOnly Departure.lateStoresUnsure }, { on := 10, ground := Ground.textOnly Departure.lateStoresUnsure }, { on := 11, ground := Ground.textOnly Departure.lateStores }, { on := 12, ground := Ground.textOnly Departure.lateStoresUnsure }, { on := 13, ground := Ground.textOnly Departure.lateStoresUnsure }, { on := 14, ground := Ground.phase }, { on := 15, ground := Ground.textOnly Departure.lateStoresUnsure }, { on := 16, ground := Ground.textOnly Departure.lateStoresUnsure }, { on := 17, ground := Ground.textOnly Departure.tupleMapEntryFirst }, { on := 18, ground := Ground.textOnly Departure.lateStores }, { on := 19, ground := Ground.textOnly Departure.lateStores }], guard := none }) rfl (fun K hK => ?_) AllReadyH.nil
      rw [if_pos (by rfl)]
      refine wp_mapEntry 71 _ _ (by rfl) (.map (some b1)) (.agg k.toArray) (.tuple #[.agg Z40, goInt st1]) (by rfl) (by rfl) u1 hr1 ?_
      refine hK.out _ _ (⟨hS.1.grown hg1 (fun q hq => by cases hq; exact .inl h.fb1), (hg1.block b5 (Array.getElem?_eq_some_iff.1 hS.2.1).1 (fun e => by injection e with e; have := B5.out; have := h.m1.lt; omega)).trans hS.2.1, (hg1.block b14 (Array.getElem?_eq_some_iff.1 hS.2.2.1).1 (fun e => by injection e with e; have := B14.out; have := h.m1.lt; omega)).trans hS.2.2.1, (hg1.block tb (Array.getElem?_eq_some_iff.1 hS.2.2.2).1 (fun e => by injection e with e; exact h.ne.1 e)).trans hS.2.2.2⟩) ?_
      clear hK K
      intro hS
      try simp only [Act.put, List.setIfInBounds_toArray, List.set_cons_zero, List.set_cons_succ]
      refine wpAnyH_take (i := 21) (oi := { dst := some 91, op := Op.extract (Operand.tmp 90) 1, type := 3, pos := "trip.go:64", after := #[{ on := 20, ground := Ground.data }], guard := none }) (v := goInt st1) rfl (by kernel_rfl) (by kernel_rfl) (by kernel_rfl) (fun _ _ _ h => h) (Or.inl ⟨by rfl, ?_⟩) (by assumption) ?_
      · intro z hz
        go_simp
      try simp only [Act.put, List.setIfInBounds_toArray, List.set_cons_zero, List.set_cons_succ]
      obtain ⟨v1, hr1, hm1, hh1⟩ := hs1 u1 (.agg (newTr k tick).cells.toArray) rfl
      have q1 : ∀ j, j < w.heap.size → j ≠ b1 → j ≠ b2 → j ≠ b3 → v1.heap[j]? = w.heap[j]? := fun j hj n1 n2 n3 => (hh1.block j (Nat.lt_of_lt_of_le hj hS.1.size) (fun e => n1 (by injection e))).trans (p1 j hj n1 n2 n3)
      refine wpAnyH_ready (rs := [22]) (by kernel_rfl) (by simp) ?_
      refine AllReadyH.cons (o := { dst := none, op := Op.entryStore 71 (Operand.tmp 73) (Operand.tmp 91) (Operand.tmp 87), type := 0, pos := "trip.go:64", after := #[{ on := 3, ground := Ground.data }, { on := 21, ground := Ground.data }, { on := 17, ground := Ground.data }, { on := 20, ground := Ground.chain }, { on := 0, ground := Ground.phase }, { on := 1, ground := Ground.phase }, { on := 2, ground := Ground.phase }, { on := 3, ground := Ground.phase }, { on := 4, ground := Ground.phase }, { on := 5, ground := Ground.textOnly Departure.lateStores }, { on := 6, ground := Ground.textOnly Departure.lateStoresUnsure }, { on := 7, ground := Ground.textOnly Departure.lateStoresUnsure }, { on := 8, ground := Ground.phase }, { on := 9, ground := Ground.textOnly Departure.lateStoresUnsure }, { on := 10, ground := Ground.textOnly Departure.lateStoresUnsure }, { on := 11, ground := Ground.textOnly Departure.lateStores }, { on := 12, ground := Ground.textOnly Departure.lateStoresUnsure }, { on := 13, ground := Ground.textOnly Departure.lateStoresUnsure }, { on := 14, ground := Ground.phase }, { on := 15, ground := Ground.textOnly Departure.lateStoresUnsure }, { on := 16, ground := Ground.textOnly Departure.lateStoresUnsure }, { on := 17, ground := Ground.phase }, { on := 18, ground := Ground.textOnly Departure.lateStores }, { on := 19, ground := Ground.textOnly Departure.lateStores }, { on := 20, ground := Ground.phase }], guard := none }) rfl (fun K hK => ?_) AllReadyH.nil
      rw [if_pos (by rfl)]
      refine wp_entryStore 71 _ _ _ (by rfl) (.map (some b1)) (goInt st1) (.agg (newTr k tick).cells.toArray) (by rfl) (by rfl) (by rfl) v1 hr1 ?_
      refine hK.out _ _ (⟨hS.1.grown hh1 (fun q hq => by cases hq; exact .inl h.fb1), (hh1.block b5 (Array.getElem?_eq_some_iff.1 hS.2.1).1 (fun e => by injection e with e; have := B5.out; have := h.m1.lt; omega)).trans hS.2.1, (hh1.block b14 (Array.getElem?_eq_some_iff.1 hS.2.2.1).1 (fun e => by injection e with e; have := B14.out; have := h.m1.lt; omega)).trans hS.2.2.1, (hh1.block tb (Array.getElem?_eq_some_iff.1 hS.2.2.2).1 (fun e => by injection e with e; exact h.ne.1 e)).trans hS.2.2.2⟩) ?_
      clear hK K
      intro hS
      try simp only [Act.put, List.setIfInBounds_toArray, List.set_cons_zero, List.set_cons_succ]
      replace m2 := (m2.of_block (hg1.block b2 m2.lt (fun e => h.n12 (by injection e with e; exact e.symm)))); replace m2 := m2.of_block (hh1.block b2 m2.lt (fun e => h.n12 (by injection e with e; exact e.symm)))
      replace m3 := (m3.of_block (hg1.block b3 m3.lt (fun e => h.n13 (by injection e with e; exact e.symm)))); replace m3 := m3.of_block (hh1.block b3 m3.lt (fun e => h.n13 (by injection e with e; exact e.symm)))
      obtain ⟨st2, u2, hr2, hg2, hs2⟩ := m2.entry law23 Tryz.underlying72 (z := .agg Z25) (zero_of_info zero25).1 (key := .agg (k.take 8).toArray) KLT.out no2
      have p2 : ∀ j, j < w.heap.size → j ≠ b1 → j ≠ b2 → j ≠ b3 → u2.heap[j]? = w.heap[j]? := fun j hj n1 n2 n3 => (hg2.block j (Nat.lt_of_lt_of_le hj hS.1.size) (fun e => n2 (by injection e))).trans ((q1) j hj n1 n2 n3)
      refine wpAnyH_ready (rs := [23]) (by kernel_rfl) (by simp) ?_
      refine AllReadyH.cons (o := { dst := some 92, op := Op.mapEntry 72 (Operand.tmp 78) (Operand.tmp 80), type := 0, pos := "trip.go:64", after := #[{ on := 8, ground := Ground.data }, { on := 10, ground := Ground.data }, { on := 22, ground := Ground.chain }, { on := 0, ground := Ground.phase }, { on := 1, ground := Ground.phase }, { on := 2, ground := Ground.phase }, { on := 3, ground := Ground.phase }, { on := 4, ground := Ground.phase }, { on := 5, ground := Ground.textOnly Departure.tupleMapEntryFirst }, { on := 6, ground := Ground.textOnly Departure.lateStoresUnsure }, { on := 7, ground := Ground.textOnly Departure.lateStoresUnsure }, { on := 8, ground := Ground.phase }, { on := 9, ground := Ground.textOnly Departure.lateStoresUnsure }, { on := 10, ground := Ground.textOnly Departure.lateStoresUnsure }, { on := 11, ground := Ground.textOnly Departure.lateStores }, { on := 12, ground := Ground.textOnly Departure.lateStoresUnsure }, { on := 13, ground := Ground.textOnly Departure.lateStoresUnsure }, { on := 14, ground := Ground.phase }, { on := 15, ground := Ground.textOnly Departure.lateStoresUnsure }, { on := 16, ground := Ground.textOnly Departure.lateStoresUnsure }, { on := 17, ground := Ground.phase }, { on := 18, ground := Ground.textOnly Departure.tupleMapEntryFirst }, { on := 19, ground := Ground.textOnly Departure.lateStores }, { on := 20, ground := Ground.phase }, { on := 21, ground := Ground.phase }, { on := 22, ground := Ground.phase }], guard := none }) rfl (fun K hK => ?_) AllReadyH.nil
      rw [if_pos (by rfl)]
      refine wp_mapEntry 72 _ _ (by rfl) (.map (some b2)) (.agg (k.take 8).toArray) (.tuple #[.agg Z25, goInt st2]) (by rfl) (by rfl) u2 hr2 ?_
      refine hK.out _ _ (⟨hS.1.grown hg2 (fun q hq => by cases hq; exact .inl h.fb2), (hg2.block b5 (Array.getElem?_eq_some_iff.1 hS.2.1).1 (fun e => by injection e with e; have := B5.out; have := h.m2.lt; omega)).trans hS.2.1, (hg2.block b14 (Array.getElem?_eq_some_iff.1 hS.2.2.1).1 (fun e => by injection e with e; have := B14.out; have := h.m2.lt; omega)).trans hS.2.2.1, (hg2.block tb (Array.getElem?_eq_some_iff.1 hS.2.2.2).1 (fun e => by injection e with e; exact h.ne.2.1 e)).trans hS.2.2.2⟩) ?_
      clear hK K
      intro hS
      try simp only [Act.put, List.setIfInBounds_toArray, List.set_cons_zero, List.set_cons_succ]
      refine wpAnyH_take (i := 24) (oi := { dst := some 93, op := Op.extract (Operand.tmp 92) 1, type := 3, pos := "trip.go:64", after := #[{ on := 23, ground := Ground.data }], guard := none }) (v := goInt st2) rfl (by kernel_rfl) (by kernel_rfl) (by kernel_rfl) (fun _ _ _ h => h) (Or.inl ⟨by rfl, ?_⟩) (by assumption) ?_
      · intro z hz
        go_simp
      try simp only [Act.put, List.setIfInBounds_toArray, List.set_cons_zero, List.set_cons_succ]
      obtain ⟨v2, hr2, hm2, hh2⟩ := hs2 u2 (.agg k.toArray) rfl
      have q2 : ∀ j, j < w.heap.size → j ≠ b1 → j ≠ b2 → j ≠ b3 → v2.heap[j]? = w.heap[j]? := fun j hj n1 n2 n3 => (hh2.block j (Nat.lt_of_lt_of_le hj hS.1.size) (fun e => n2 (by injection e))).trans (p2 j hj n1 n2 n3)
      refine wpAnyH_ready (rs := [25]) (by kernel_rfl) (by simp) ?_
      refine AllReadyH.cons (o := { dst := none, op := Op.entryStore 72 (Operand.tmp 78) (Operand.tmp 93) (Operand.tmp 88), type := 0, pos := "trip.go:64", after := #[{ on := 8, ground := Ground.data }, { on := 24, ground := Ground.data }, { on := 18, ground := Ground.data }, { on := 23, ground := Ground.chain }, { on := 0, ground := Ground.phase }, { on := 1, ground := Ground.phase }, { on := 2, ground := Ground.phase }, { on := 3, ground := Ground.phase }, { on := 4, ground := Ground.phase }, { on := 5, ground := Ground.phase }, { on := 6, ground := Ground.phase }, { on := 7, ground := Ground.phase }, { on := 8, ground := Ground.phase }, { on := 9, ground := Ground.phase }, { on := 10, ground := Ground.phase }, { on := 11, ground := Ground.textOnly Departure.lateStores }, { on := 12, ground := Ground.textOnly Departure.lateStoresUnsure }, { on := 13, ground := Ground.textOnly Departure.lateStoresUnsure }, { on := 14, ground := Ground.phase }, { on := 15, ground := Ground.textOnly Departure.lateStoresUnsure }, { on := 16, ground := Ground.textOnly Departure.lateStoresUnsure }, { on := 17, ground := Ground.phase }, { on := 18, ground := Ground.phase }, { on := 19, ground := Ground.textOnly Departure.lateStores }, { on := 20, ground := Ground.phase }, { on := 21, ground := Ground.phase }, { on := 22, ground := Ground.phase }, { on := 23, ground := Ground.phase }], guard := none }) rfl (fun K hK => ?_) AllReadyH.nil
      rw [if_pos (by rfl)]
      refine wp_entryStore 72 _ _ _ (by rfl) (.map (some b2)) (goInt st2) (.agg k.toArray) (by rfl) (by rfl) (by rfl) v2 hr2 ?_
      refine hK.out _ _ (⟨hS.1.grown hh2 (fun q hq => by cases hq; exact .inl h.fb2), (hh2.block b5 (Array.getElem?_eq_some_iff.1 hS.2.1).1 (fun e => by injection e with e; have := B5.out; have := h.m2.lt; omega)).trans hS.2.1, (hh2.block b14 (Array.getElem?_eq_some_iff.1 hS.2.2.1).1 (fun e => by injection e with e; have := B14.out; have := h.m2.lt; omega)).trans hS.2.2.1, (hh2.block tb (Array.getElem?_eq_some_iff.1 hS.2.2.2).1 (fun e => by injection e with e; exact h.ne.2.1 e)).trans hS.2.2.2⟩) ?_
      clear hK K
      intro hS
      try simp only [Act.put, List.setIfInBounds_toArray, List.set_cons_zero, List.set_cons_succ]
      replace hm1 := (hm1.of_block (hg2.block b1 hm1.lt (fun e => h.n12 (by injection e)))); replace hm1 := hm1.of_block (hh2.block b1 hm1.lt (fun e => h.n12 (by injection e)))
      replace m3 := (m3.of_block (hg2.block b3 m3.lt (fun e => h.n23 (by injection e with e; exact e.symm)))); replace m3 := m3.of_block (hh2.block b3 m3.lt (fun e => h.n23 (by injection e with e; exact e.symm)))
      obtain ⟨st3, u3, hr3, hg3, hs3⟩ := m3.entry law23 Tryz.underlying72 (z := .agg Z25) (zero_of_info zero25).1 (key := .agg (k.drop 8).toArray) KLD.out no3
      have p3 : ∀ j, j < w.heap.size → j ≠ b1 → j ≠ b2 → j ≠ b3 → u3.heap[j]? = w.heap[j]? := fun j hj n1 n2 n3 => (hg3.block j (Nat.lt_of_lt_of_le hj hS.1.size) (fun e => n3 (by injection e))).trans ((q2) j hj n1 n2 n3)
      refine wpAnyH_ready (rs := [26]) (by kernel_rfl) (by simp) ?_
      refine AllReadyH.cons (o := { dst := some 94, op := Op.mapEntry 72 (Operand.tmp 84) (Operand.tmp 86), type := 0, pos := "trip.go:64", after := #[{ on := 14, ground := Ground.data }, { on := 16, ground := Ground.data }, { on := 25, ground := Ground.chain }, { on := 0, ground := Ground.phase }, { on := 1, ground := Ground.phase }, { on := 2, ground := Ground.phase }, { on := 3, ground := Ground.phase }, { on := 4, ground := Ground.phase }, { on := 5, ground := Ground.phase }, { on := 6, ground := Ground.phase }, { on := 7, ground := Ground.phase }, { on := 8, ground := Ground.phase }, { on := 9, ground := Ground.phase }, { on := 10, ground := Ground.phase }, { on := 11, ground := Ground.textOnly Departure.tupleMapEntryFirst }, { on := 12, ground := Ground.textOnly Departure.lateStoresUnsure }, { on := 13, ground := Ground.textOnly Departure.lateStoresUnsure }, { on := 14, ground := Ground.phase }, { on := 15, ground := Ground.textOnly Departure.lateStoresUnsure }, { on := 16, ground := Ground.textOnly Departure.lateStoresUnsure }, { on := 17, ground := Ground.phase }, { on := 18, ground := Ground.phase }, { on := 19, ground := Ground.textOnly Departure.tupleMapEntryFirst }, { on := 20, ground := Ground.phase }, { on := 21, ground := Ground.phase }, { on := 22, ground := Ground.phase }, { on := 23, ground := Ground.phase }, { on := 24, ground := Ground.phase }, { on := 25, ground := Ground.phase }], guard := none }) rfl (fun K hK => ?_) AllReadyH.nil
      rw [if_pos (by rfl)]
      refine wp_mapEntry 72 _ _ (by rfl) (.map (some b3)) (.agg (k.drop 8).toArray) (.tuple #[.agg Z25, goInt st3]) (by rfl) (by rfl) u3 hr3 ?_
      refine hK.out _ _ (⟨hS.1.grown hg3 (fun q hq => by cases hq; exact .inl h.fb3), (hg3.block b5 (Array.getElem?_eq_some_iff.1 hS.2.1).1 (fun e => by injection e with e; have := B5.out; have := h.m3.lt; omega)).trans hS.2.1, (hg3.block b14 (Array.getElem?_eq_some_iff.1 hS.2.2.1).1 (fun e => by injection e with e; have := B14.out; have := h.m3.lt; omega)).trans hS.2.2.1, (hg3.block tb (Array.getElem?_eq_some_iff.1 hS.2.2.2).1 (fun e => by injection e with e; exact h.ne.2.2.1 e)).trans hS.2.2.2⟩) ?_
      clear hK K
      intro hS
      try simp only [Act.put, List.setIfInBounds_toArray, List.set_cons_zero, List.set_cons_succ]
      refine wpAnyH_take (i := 27) (oi := { dst := some 95, op := Op.extract (Operand.tmp 94) 1, type := 3, pos := "trip.go:64", after := #[{ on := 26, ground := Ground.data }], guard := none }) (v := goInt st3) rfl (by kernel_rfl) (by kernel_rfl) (by kernel_rfl) (fun _ _ _ h => h) (Or.inl ⟨by rfl, ?_⟩) (by assumption) ?_
      · intro z hz
        go_simp
      try simp only [Act.put, List.setIfInBounds_toArray, List.set_cons_zero, List.set_cons_succ]
      obtain ⟨v3, hr3, hm3, hh3⟩ := hs3 u3 (.agg k.toArray) rfl
      have q3 : ∀ j, j < w.heap.size → j ≠ b1 → j ≠ b2 → j ≠ b3 → v3.heap[j]? = w.heap[j]? := fun j hj n1 n2 n3 => (hh3.block j (Nat.lt_of_lt_of_le hj hS.1.size) (fun e => n3 (by injection e))).trans (p3 j hj n1 n2 n3)
      refine wpAnyH_ready (rs := [28]) (by kernel_rfl) (by simp) ?_
      refine AllReadyH.cons (o := { dst := none, op := Op.entryStore 72 (Operand.tmp 84) (Operand.tmp 95) (Operand.tmp 89), type := 0, pos := "trip.go:64", after := #[{ on := 14, ground := Ground.data }, { on := 27, ground := Ground.data }, { on := 19, ground := Ground.data }, { on := 26, ground := Ground.chain }, { on := 0, ground := Ground.phase }, { on := 1, ground := Ground.phase }, { on := 2, ground := Ground.phase }, { on := 3, ground := Ground.phase }, { on := 4, ground := Ground.phase }, { on := 5, ground := Ground.phase }, { on := 6, ground := Ground.phase }, { on := 7, ground := Ground.phase }, { on := 8, ground := Ground.phase }, { on := 9, ground := Ground.phase }, { on := 10, ground := Ground.phase }, { on := 11, ground := Ground.phase }, { on := 12, ground := Ground.phase }, { on := 13, ground := Ground.phase }, { on := 14, ground := Ground.phase }, { on := 15, ground := Ground.phase }, { on := 16, ground := Ground.phase }, { on := 17, ground := Ground.phase }, { on := 18, ground := Ground.phase }, { on := 19, ground := Ground.phase }, { on := 20, ground := Ground.phase }, { on := 21, ground := Ground.phase }, { on := 22, ground := Ground.phase }, { on := 23, ground := Ground.phase }, { on := 24, ground := Ground.phase }, { on := 25, ground := Ground.phase }, { on := 26, ground := Ground.phase }], guard := none }) rfl (fun K hK => ?_) AllReadyH.nil
      rw [if_pos (by rfl)]
      refine wp_entryStore 72 _ _ _ (by rfl) (.map (some b3)) (goInt st3) (.agg k.toArray) (by rfl) (by rfl) (by rfl) v3 hr3 ?_
      refine hK.out _ _ (⟨hS.1.grown hh3 (fun q hq => by cases hq; exact .inl h.fb3), (hh3.block b5 (Array.getElem?_eq_some_iff.1 hS.2.1).1 (fun e => by injection e with e; have := B5.out; have := h.m3.lt; omega)).trans hS.2.1, (hh3.block b14 (Array.getElem?_eq_some_iff.1 hS.2.2.1).1 (fun e => by injection e with e; have := B14.out; have := h.m3.lt; omega)).trans hS.2.2.1, (hh3.block tb (Array.getElem?_eq_some_iff.1 hS.2.2.2).1 (fun e => by injection e with e; exact h.ne.2.2.1 e)).trans hS.2.2.2⟩) ?_
      clear hK K
      intro hS
      try simp only [Act.put, List.setIfInBounds_toArray, List.set_cons_zero, List.set_cons_succ]
      replace hm1 := (hm1.of_block (hg3.block b1 hm1.lt (fun e => h.n13 (by injection e)))); replace hm1 := hm1.of_block (hh3.block b1 hm1.lt (fun e => h.n13 (by injection e)))
      replace hm2 := (hm2.of_block (hg3.block b2 hm2.lt (fun e => h.n23 (by injection e)))); replace hm2 := hm2.of_block (hh3.block b2 hm2.lt (fun e => h.n23 (by injection e)))
      refine wpAnyH_done (by kernel_rfl) ?_ _
      clear hr1 hr2 hr3 hg1 hg2 hg3 hh1 hh2 hh3 hs1 hs2 hs3 p1 p2 p3 q1 q2 no1 no2 no3 m1 m2 m3 o5
      obtain ⟨s1, s2, _, s4⟩ := hS
      have ztb := (Array.getElem?_eq_some_iff.1 s4).1
      have hown3 : v3.ownsRow 0 59 16 ov q.l.length ((q.l.map Tr.k).flatMap id) := ⟨h.ord.1, by
        rcases h.ord.2 with e | ⟨g, cap, cur, h1', h2', h3', h4'⟩
        · exact .inl e
        · have lg : g < w.heap.size := (Array.getElem?_eq_some_iff.1 h3').1
          have ng : ∀ c, ov.ownBlock ≠ some c → g ≠ c := fun c hc e => hc (by rw [h1', ← e]; rfl)
          exact .inr ⟨g, cap, cur, h1', h2', (q3 g lg (ng _ h.ne.2.2.2.2.1) (ng _ h.ne.2.2.2.2.2.1) (ng _ h.ne.2.2.2.2.2.2)).trans h3', h4'⟩⟩
      clear q3
      go_wp2_with fail
      refine wp_region_held_drew (S := (fun u => Lies F w u ∧ u.heap[b5]? = some (.cells k.toArray 59 (0, 0)))) (by kernel_rfl) (⟨s1.drew, s2⟩) ?_
      intro hS
      refine wpAnyH_take (i := 0) (oi := { dst := some 96, op := Op.move (Operand.tmp 0), type := 24, pos := "trip.go:65", after := #[], guard := none }) (v := .pointer (some ⟨tb, 0, none⟩)) rfl (by kernel_rfl) (by kernel_rfl) (by kernel_rfl) (fun _ _ _ h => h) (Or.inl ⟨by rfl, ?_⟩) (by assumption) ?_
      · intro z hz
        go_simp
      try simp only [Act.put, List.setIfInBounds_toArray, List.set_cons_zero, List.set_cons_succ]
      refine wpAnyH_take (i := 1) (oi := { dst := some 97, op := Op.move (Operand.tmp 0), type := 24, pos := "trip.go:65", after := #[], guard := none }) (v := .pointer (some ⟨tb, 0, none⟩)) rfl (by kernel_rfl) (by kernel_rfl) (by kernel_rfl) (fun _ _ _ h => h) (Or.inl ⟨by rfl, ?_⟩) (by assumption) ?_
      · intro z hz
        go_simp
      try simp only [Act.put, List.setIfInBounds_toArray, List.set_cons_zero, List.set_cons_succ]
      refine wpAnyH_take (i := 2) (oi := { dst := some 98, op := Op.nilCheck (Operand.tmp 97), type := 0, pos := "trip.go:65", after := #[{ on := 1, ground := Ground.data }], guard := none }) (v := .pointer (some ⟨tb, 0, none⟩)) rfl (by kernel_rfl) (by kernel_rfl) (by kernel_rfl) (fun _ _ _ h => h) (Or.inl ⟨by rfl, ?_⟩) (by assumption) ?_
      · intro z hz
        go_simp
      try simp only [Act.put, List.setIfInBounds_toArray, List.set_cons_zero, List.set_cons_succ]
      refine wpAnyH_take (i := 3) (oi := { dst := some 99, op := Op.fieldAddr 75 (Operand.tmp 98) 1, type := 0, pos := "trip.go:65", after := #[{ on := 2, ground := Ground.data }], guard := none }) (v := .pointer (some ⟨tb, 1, none⟩)) rfl (by kernel_rfl) (by kernel_rfl) (by kernel_rfl) (fun _ _ _ h => h) (Or.inl ⟨by rfl, ?_⟩) (by assumption) ?_
      · intro z hz
        go_simp
      try simp only [Act.put, List.setIfInBounds_toArray, List.set_cons_zero, List.set_cons_succ]
      refine wpAnyH_take (i := 5) (oi := { dst := some 101, op := Op.load 59 (Operand.tmp 5), type := 59, pos := "trip.go:65", after := #[], guard := none }) (v := .agg k.toArray) rfl (by kernel_rfl) (by kernel_rfl) (by kernel_rfl) (fun _ _ _ h => h) (yields_loadrow (by rfl) 59 _ (by rfl) b5 (by rfl) k.toArray 59 _ (fun u hu => hu.2) Tryz.underlying59 rfl (by rw [List.size_toArray, hk.1]; exact size25)) (by assumption) ?_
      try simp only [Act.put, List.setIfInBounds_toArray, List.set_cons_zero, List.set_cons_succ]
      refine wpAnyH_ready (rs := [4, 6]) (by kernel_rfl) (by simp) ?_
      refine AllReadyH.cons (o := { dst := some 100, op := Op.load 73 (Operand.tmp 99), type := 73, pos := "trip.go:65", after := #[{ on := 3, ground := Ground.data }], guard := none }) rfl (fun K hK => ?_) (AllReadyH.cons (o := { dst := some 102, op := Op.buildSlice 73 1 #[(0, Operand.tmp 101)], type := 73, pos := "trip.go:65", after := #[{ on := 5, ground := Ground.data }], guard := none }) rfl (fun K hK => ?_) AllReadyH.nil)
      · rw [if_pos (by rfl)]
        refine wp_load1 73 59 _ (by rfl) ⟨tb, 1, none⟩ (by rfl) ov Tryz.underlying73 (cell_of_row v3.drew tb 1 _ _ _ (s4)) ?_
        refine hK.out _ _ (hS) ?_
        clear hK K
        intro hS
        try simp only [Act.put, List.setIfInBounds_toArray, List.set_cons_zero, List.set_cons_succ]
        refine wpAnyH_ready (rs := [6]) (by kernel_rfl) (by simp) ?_
        refine AllReadyH.cons (o := { dst := some 102, op := Op.buildSlice 73 1 #[(0, Operand.tmp 101)], type := 73, pos := "trip.go:65", after := #[{ on := 5, ground := Ground.data }], guard := none }) rfl (fun K hK => ?_) AllReadyH.nil
        rw [if_pos (by rfl)]
        refine wp_build1 73 59 (.tmp 101) (by rfl) k.toArray Z25 16 16 Tryz.underlying73 info25 (by rfl) (by simpa using hk.1) rfl (by omega) (by omega) ?_
        refine hK.out _ _ (⟨hS.1.alloc _, (Below.heap_alloc _ _ _ (Array.getElem?_eq_some_iff.1 hS.2).1).trans hS.2⟩) ?_
        clear hK K
        intro hS
        try simp only [Act.put, List.setIfInBounds_toArray, List.set_cons_zero, List.set_cons_succ]
        obtain ⟨i0, hi0, hi1, hi2, hi3⟩ := info_parts info25
        refine wpAnyH_ready (rs := [7]) (by kernel_rfl) (by simp) ?_
        refine AllReadyH.cons (o := { dst := some 103, op := Op.call { callee := Callee.builtin Builtin.append, args := #[Operand.tmp 100, Operand.tmp 102], argTypes := #[73, 73] }, type := 73, pos := "trip.go:65", after := #[{ on := 4, ground := Ground.data }, { on := 6, ground := Ground.data }], guard := none }) rfl (fun K hK => ?_) AllReadyH.nil
        refine step_append_lies _ rfl (.tmp 100) (.tmp 102) 73 rfl 0 59 i0 (.agg Z25) 16 16 Tryz.underlying73 hi0 hi1 hi2 hi3 rfl (by omega) ov q.l.length _ rfl (World.ownsRow.alloc (w := v3.drew) hown3 _) ⟨v3.drew.heap.size, 0, none⟩ 1 1 k rfl (by rw [hk.1]) (by have := World.news_of_block (heap_last v3.drew (.cells k.toArray 59)); simpa using this) hk.one (by omega) (by have := hn.out; simp only [maxLen]; omega) (by have := hn.out; omega) (Nat.zero_le _) _ rfl ?_
        intro g3 cap3 w3 hown4 hgrow4 hat4 hlt4
        have h5 : w3.heap[b5]? = some (.cells k.toArray 59 (0, 0)) := (hgrow4.block b5 (Array.getElem?_eq_some_iff.1 hS.2).1 (fun e => by have := hF b5 (h.fo b5 e.symm); have := B5.out; omega)).trans hS.2
        have hL4 : Lies F w w3 := hS.1.grown hgrow4 (fun x hx => .inl (h.fo x hx))
        have keep4 : ∀ j, j < v3.heap.size → ov.ownBlock ≠ some j → w3.heap[j]? = v3.heap[j]? := fun j hj hne => (hgrow4.block j (by show j < (v3.drew.alloc (.cells k.toArray 59)).heap.size; rw [World.size_alloc]; exact Nat.lt_succ_of_lt hj) (fun e => hne e.symm)).trans (Below.heap_alloc _ _ _ hj)
        have hgv : ov.ownBlock = some g3 ∨ v3.heap.size < g3 := hat4.imp id (fun e => by rw [e]; show v3.heap.size < (v3.drew.alloc _).heap.size; rw [World.size_alloc]; exact Nat.lt_succ_self _)
        refine hK.out _ _ (⟨hL4, h5⟩) ?_
        clear hK K
        intro hS
        try simp only [Act.put, List.setIfInBounds_toArray, List.set_cons_zero, List.set_cons_succ]
        refine wpAnyH_take (i := 8) (oi := { dst := some 104, op := Op.nilCheck (Operand.tmp 96), type := 0, pos := "trip.go:65", after := #[{ on := 0, ground := Ground.data }, { on := 0, ground := Ground.phase }, { on := 1, ground := Ground.phase }, { on := 2, ground := Ground.phase }, { on := 3, ground := Ground.phase }, { on := 4, ground := Ground.phase }, { on := 5, ground := Ground.phase }, { on := 6, ground := Ground.phase }, { on := 7, ground := Ground.phase }], guard := none }) (v := .pointer (some ⟨tb, 0, none⟩)) rfl (by kernel_rfl) (by kernel_rfl) (by kernel_rfl) (fun _ _ _ h => h) (Or.inl ⟨by rfl, ?_⟩) (by assumption) ?_
        · intro z hz
          go_simp
        try simp only [Act.put, List.setIfInBounds_toArray, List.set_cons_zero, List.set_cons_succ]
        refine wpAnyH_take (i := 9) (oi := { dst := some 105, op := Op.fieldAddr 75 (Operand.tmp 104) 1, type := 0, pos := "trip.go:65", after := #[{ on := 8, ground := Ground.data }, { on := 0, ground := Ground.phase }, { on := 1, ground := Ground.phase }, { on := 2, ground := Ground.phase }, { on := 3, ground := Ground.phase }, { on := 4, ground := Ground.phase }, { on := 5, ground := Ground.phase }, { on := 6, ground := Ground.phase }, { on := 7, ground := Ground.phase }], guard := none }) (v := .pointer (some ⟨tb, 1, none⟩)) rfl (by kernel_rfl) (by kernel_rfl) (by kernel_rfl) (fun _ _ _ h => h) (Or.inl ⟨by rfl, ?_⟩) (by assumption) ?_
        · intro z hz
          go_simp
        try simp only [Act.put, List.setIfInBounds_toArray, List.set_cons_zero, List.set_cons_succ]
        refine wpAnyH_ready (rs := [10]) (by kernel_rfl) (by simp) ?_
        refine AllReadyH.cons (o := { dst := none, op := Op.store 73 (Operand.tmp 105) (Operand.tmp 103), type := 0, pos := "trip.go:65", after := #[{ on := 9, ground := Ground.data }, { on := 7, ground := Ground.data }, { on := 7, ground := Ground.chain }, { on := 0, ground := Ground.phase }, { on := 1, ground := Ground.phase }, { on := 2, ground := Ground.phase }, { on := 3, ground := Ground.phase }, { on := 4, ground := Ground.phase }, { on := 5, ground := Ground.phase }, { on := 6, ground := Ground.phase }, { on := 7, ground := Ground.phase }], guard := none }) rfl (fun K hK => ?_) AllReadyH.nil
        rw [if_pos (by rfl)]
        refine wp_store1 73 _ _ (by rfl) tb 1 (by rfl) (.slice (some ⟨g3, 0, none⟩) (q.l.length + 1) cap3) (by rfl) ((keep4 tb ztb h.ne.2.2.2.1).trans s4) (by simp) size30 rfl rfl ?_
        refine hK.out _ _ (⟨hS.1.setRow (.inl h.ft) _, (setRow_other _ _ _ _ (by have := B5.out; omega)).trans hS.2⟩) ?_
        clear hK K
        intro hS
        try simp only [Act.put, List.setIfInBounds_toArray, List.set_cons_zero, List.set_cons_succ]
        refine wpAnyH_done (by kernel_rfl) ?_ _
        have hd7 := setRow_heap w3 tb _ #[.int .i64 q.clock, .slice (some ⟨g3, 0, none⟩) (q.l.length + 1) cap3, .map (some b1), .map (some b2), .map (some b3)] _ _ ((keep4 tb ztb h.ne.2.2.2.1).trans s4)
        have ng3 : tb ≠ g3 := hgv.elim (fun e e' => h.ne.2.2.2.1 (by rw [e, e'])) (fun e => by omega)
        have M1 := (hm1.of_block (keep4 b1 hm1.lt h.ne.2.2.2.2.1)).of_block (w' := w3.setRow tb #[.int .i64 q.clock, .slice (some ⟨g3, 0, none⟩) (q.l.length + 1) cap3, .map (some b1), .map (some b2), .map (some b3)]) (setRow_other _ _ _ _ h.ne.1.symm)
        have M2 := (hm2.of_block (keep4 b2 hm2.lt h.ne.2.2.2.2.2.1)).of_block (w' := w3.setRow tb #[.int .i64 q.clock, .slice (some ⟨g3, 0, none⟩) (q.l.length + 1) cap3, .map (some b1), .map (some b2), .map (some b3)]) (setRow_other _ _ _ _ h.ne.2.1.symm)
        have M3 := (hm3.of_block (keep4 b3 hm3.lt h.ne.2.2.2.2.2.2)).of_block (w' := w3.setRow tb #[.int .i64 q.clock, .slice (some ⟨g3, 0, none⟩) (q.l.length + 1) cap3, .map (some b1), .map (some b2), .map (some b3)]) (setRow_other _ _ _ _ h.ne.2.2.1.symm)
        have hown7 := World.ownsRow.kept hown4 (grown_setRow w3 tb #[.int .i64 q.clock, .slice (some ⟨g3, 0, none⟩) (q.l.length + 1) cap3, .map (some b1), .map (some b2), .map (some b3)]) (.inr (fun e => ng3 (by injection e with e; exact e.symm)))
        have L7 : Lies F w (w3.setRow tb #[.int .i64 q.clock, .slice (some ⟨g3, 0, none⟩) (q.l.length + 1) cap3, .map (some b1), .map (some b2), .map (some b3)]) := hL4.setRow (.inl h.ft) _
        have hlt7 : g3 < (w3.setRow tb #[.int .i64 q.clock, .slice (some ⟨g3, 0, none⟩) (q.l.length + 1) cap3, .map (some b1), .map (some b2), .map (some b3)]).heap.size := by simpa using hlt4
        clear hS
        generalize w3.setRow tb #[.int .i64 q.clock, .slice (some ⟨g3, 0, none⟩) (q.l.length + 1) cap3, .map (some b1), .map (some b2), .map (some b3)] = W7 at *
        clear hown4 hgrow4 hat4 hL4 h5
        have HG := Lib.hid hgv
        have HL7 := Lib.hid hlt7
        clear hgv hlt7
        go_wp2_with (refine wpList_store1 rfl 3 _ _ (by rfl) tb 0 (by rfl) (.int .i64 tick) (by rfl) hd7 (by simp) size3 rfl rfl ?_)
        go_ret
        refine ⟨rfl, (fun j => F j ∨ j = g3), .slice (some ⟨g3, 0, none⟩) (q.l.length + 1) cap3, L7.setRow (.inl h.ft) _, ?_, ?_, ?_⟩
        · rintro j (hj | rfl)
          · exact .inl hj
          · rcases HG.out with e | e
            · exact .inl (h.fo _ e)
            · exact .inr (by have := s1.size; omega)
        · rintro j (hj | rfl)
          · have := hF j hj; have := L7.size; simp; omega
          · have := HL7.out; simpa using this
        · exact {
            hd := setRow_heap _ _ _ _ _ _ hd7
            m1 := (M1.of_block (setRow_other _ _ _ _ h.ne.1.symm)).congr (f1_push hno1.out)
            m2 := (M2.of_block (setRow_other _ _ _ _ h.ne.2.1.symm)).congr (f2_push hno2.out)
            m3 := (M3.of_block (setRow_other _ _ _ _ h.ne.2.2.1.symm)).congr (f3_push hno3.out)
            ord := by
              have := World.ownsRow.kept hown7 (grown_setRow W7 tb #[.int .i64 tick, .slice (some ⟨g3, 0, none⟩) (q.l.length + 1) cap3, .map (some b1), .map (some b2), .map (some b3)]) (.inr (fun e => ng3 (by injection e with e; exact e.symm)))
              simpa [newTr] using this
            n12 := h.n12
            n13 := h.n13
            n23 := h.n23
            ft := .inl h.ft
            fb1 := .inl h.fb1
            fb2 := .inl h.fb2
            fb3 := .inl h.fb3
            fo := fun g hg => .inr (by injection hg with hg; exact hg.symm) }
      · rw [if_pos (by rfl)]
        refine wp_build1 73 59 (.tmp 101) (by rfl) k.toArray Z25 16 16 Tryz.underlying73 info25 (by rfl) (by simpa using hk.1) rfl (by omega) (by omega) ?_
        refine hK.out _ _ (⟨hS.1.alloc _, (Below.heap_alloc _ _ _ (Array.getElem?_eq_some_iff.1 hS.2).1).trans hS.2⟩) ?_
        clear hK K
        intro hS
        try simp only [Act.put, List.setIfInBounds_toArray, List.set_cons_zero, List.set_cons_succ]
        refine wpAnyH_ready (rs := [4]) (by kernel_rfl) (by simp) ?_
        refine AllReadyH.cons (o := { dst := some 100, op := Op.load 73 (Operand.tmp 99), type := 73, pos := "trip.go:65", after := #[{ on := 3, ground := Ground.data }], guard := none }) rfl (fun K hK => ?_) AllReadyH.nil
        rw [if_pos (by rfl)]
        refine wp_load1 73 59 _ (by rfl) ⟨tb, 1, none⟩ (by rfl) ov Tryz.underlying73 (cell_of_row (v3.drew.alloc (.cells k.toArray 59)) tb 1 _ _ _ ((Below.heap_alloc _ _ _ ztb).trans s4)) ?_
        refine hK.out _ _ (hS) ?_
        clear hK K
        intro hS
        try simp only [Act.put, List.setIfInBounds_toArray, List.set_cons_zero, List.set_cons_succ]
        obtain ⟨i0, hi0, hi1, hi2, hi3⟩ := info_parts info25
        refine wpAnyH_ready (rs := [7]) (by kernel_rfl) (by simp) ?_
        refine AllReadyH.cons (o := { dst := some 103, op := Op.call { callee := Callee.builtin Builtin.append, args := #[Operand.tmp 100, Operand.tmp 102], argTypes := #[73, 73] }, type := 73, pos := "trip.go:65", after := #[{ on := 4, ground := Ground.data }, { on := 6, ground := Ground.data }], guard := none }) rfl (fun K hK => ?_) AllReadyH.nil
        refine step_append_lies _ rfl (.tmp 100) (.tmp 102) 73 rfl 0 59 i0 (.agg Z25) 16 16 Tryz.underlying73 hi0 hi1 hi2 hi3 rfl (by omega) ov q.l.length _ rfl (World.ownsRow.alloc (w := v3.drew) hown3 _) ⟨v3.drew.heap.size, 0, none⟩ 1 1 k rfl (by rw [hk.1]) (by have := World.news_of_block (heap_last v3.drew (.cells k.toArray 59)); simpa using this) hk.one (by omega) (by have := hn.out; simp only [maxLen]; omega) (by have := hn.out; omega) (Nat.zero_le _) _ rfl ?_
        intro g3 cap3 w3 hown4 hgrow4 hat4 hlt4
        have h5 : w3.heap[b5]? = some (.cells k.toArray 59 (0, 0)) := (hgrow4.block b5 (Array.getElem?_eq_some_iff.1 hS.2).1 (fun e => by have := hF b5 (h.fo b5 e.symm); have := B5.out; omega)).trans hS.2
        have hL4 : Lies F w w3 := hS.1.grown hgrow4 (fun x hx => .inl (h.fo x hx))
        have keep4 : ∀ j, j < v3.heap.size → ov.ownBlock ≠ some j → w3.heap[j]? = v3.heap[j]? := fun j hj hne => (hgrow4.block j (by show j < (v3.drew.alloc (.cells k.toArray 59)).heap.size; rw [World.size_alloc]; exact Nat.lt_succ_of_lt hj) (fun e => hne e.symm)).trans (Below.heap_alloc _ _ _ hj)
        have hgv : ov.ownBlock = some g3 ∨ v3.heap.size < g3 := hat4.imp id (fun e => by rw [e]; show v3.heap.size < (v3.drew.alloc _).heap.size; rw [World.size_alloc]; exact Nat.lt_succ_self _)
        refine hK.out _ _ (⟨hL4, h5⟩) ?_
        clear hK K
        intro hS
        try simp only [Act.put, List.setIfInBounds_toArray, List.set_cons_zero, List.set_cons_succ]
        refine wpAnyH_take (i := 8) (oi := { dst := some 104, op := Op.nilCheck (Operand.tmp 96), type := 0, pos := "trip.go:65", after := #[{ on := 0, ground := Ground.data }, { on := 0, ground := Ground.phase }, { on := 1, ground := Ground.phase }, { on := 2, ground := Ground.phase }, { on := 3, ground := Ground.phase }, { on := 4, ground := Ground.phase }, { on := 5, ground := Ground.phase }, { on := 6, ground := Ground.phase }, { on := 7, ground := Ground.phase }], guard := none }) (v := .pointer (some ⟨tb, 0, none⟩)) rfl (by kernel_rfl) (by kernel_rfl) (by kernel_rfl) (fun _ _ _ h => h) (Or.inl ⟨by rfl, ?_⟩) (by assumption) ?_
        · intro z hz
          go_simp
        try simp only [Act.put, List.setIfInBounds_toArray, List.set_cons_zero, List.set_cons_succ]
        refine wpAnyH_take (i := 9) (oi := { dst := some 105, op := Op.fieldAddr 75 (Operand.tmp 104) 1, type := 0, pos := "trip.go:65", after := #[{ on := 8, ground := Ground.data }, { on := 0, ground := Ground.phase }, { on := 1, ground := Ground.phase }, { on := 2, ground := Ground.phase }, { on := 3, ground := Ground.phase }, { on := 4, ground := Ground.phase }, { on := 5, ground := Ground.phase }, { on := 6, ground := Ground.phase }, { on := 7, ground := Ground.phase }], guard := none }) (v := .pointer (some ⟨tb, 1, none⟩)) rfl (by kernel_rfl) (by kernel_rfl) (by kernel_rfl) (fun _ _ _ h => h) (Or.inl ⟨by rfl, ?_⟩) (by assumption) ?_
        · intro z hz
          go_simp
        try simp only [Act.put, List.setIfInBounds_toArray, List.set_cons_zero, List.set_cons_succ]
        refine wpAnyH_ready (rs := [10]) (by kernel_rfl) (by simp) ?_
        refine AllReadyH.cons (o := { dst := none, op := Op.store 73 (Operand.tmp 105) (Operand.tmp 103), type := 0, pos := "trip.go:65", after := #[{ on := 9, ground := Ground.data }, { on := 7, ground := Ground.data }, { on := 7, ground := Ground.chain }, { on := 0, ground := Ground.phase }, { on := 1, ground := Ground.phase }, { on := 2, ground := Ground.phase }, { on := 3, ground := Ground.phase }, { on := 4, ground := Ground.phase }, { on := 5, ground := Ground.phase }, { on := 6, ground := Ground.phase }, { on := 7, ground := Ground.phase }], guard := none }) rfl (fun K hK => ?_) AllReadyH.nil
        rw [if_pos (by rfl)]
        refine wp_store1 73 _ _ (by rfl) tb 1 (by rfl) (.slice (some ⟨g3, 0, none⟩) (q.l.length + 1) cap3) (by rfl) ((keep4 tb ztb h.ne.2.2.2.1).trans s4) (by simp) size30 rfl rfl ?_
        refine hK.out _ _ (⟨hS.1.setRow (.inl h.ft) _, (setRow_other _ _ _ _ (by have := B5.out; omega)).trans hS.2⟩) ?_
        clear hK K
        intro hS
        try simp only [Act.put, List.setIfInBounds_toArray, List.set_cons_zero, List.set_cons_succ]
        refine wpAnyH_done (by kernel_rfl) ?_ _
        have hd7 := setRow_heap w3 tb _ #[.int .i64 q.clock, .slice (some ⟨g3, 0, none⟩) (q.l.length + 1) cap3, .map (some b1), .map (some b2), .map (some b3)] _ _ ((keep4 tb ztb h.ne.2.2.2.1).trans s4)
        have ng3 : tb ≠ g3 := hgv.elim (fun e e' => h.ne.2.2.2.1 (by rw [e, e'])) (fun e => by omega)
        have M1 := (hm1.of_block (keep4 b1 hm1.lt h.ne.2.2.2.2.1)).of_block (w' := w3.setRow tb #[.int .i64 q.clock, .slice (some ⟨g3, 0, none⟩) (q.l.length + 1) cap3, .map (some b1), .map (some b2), .map (some b3)]) (setRow_other _ _ _ _ h.ne.1.symm)
        have M2 := (hm2.of_block (keep4 b2 hm2.lt h.ne.2.2.2.2.2.1)).of_block (w' := w3.setRow tb #[.int .i64 q.clock, .slice (some ⟨g3, 0, none⟩) (q.l.length + 1) cap3, .map (some b1), .map (some b2), .map (some b3)]) (setRow_other _ _ _ _ h.ne.2.1.symm)
        have M3 := (hm3.of_block (keep4 b3 hm3.lt h.ne.2.2.2.2.2.2)).of_block (w' := w3.setRow tb #[.int .i64 q.clock, .slice (some ⟨g3, 0, none⟩) (q.l.length + 1) cap3, .map (some b1), .map (some b2), .map (some b3)]) (setRow_other _ _ _ _ h.ne.2.2.1.symm)
        have hown7 := World.ownsRow.kept hown4 (grown_setRow w3 tb #[.int .i64 q.clock, .slice (some ⟨g3, 0, none⟩) (q.l.length + 1) cap3, .map (some b1), .map (some b2), .map (some b3)]) (.inr (fun e => ng3 (by injection e with e; exact e.symm)))
        have L7 : Lies F w (w3.setRow tb #[.int .i64 q.clock, .slice (some ⟨g3, 0, none⟩) (q.l.length + 1) cap3, .map (some b1), .map (some b2), .map (some b3)]) := hL4.setRow (.inl h.ft) _
        have hlt7 : g3 < (w3.setRow tb #[.int .i64 q.clock, .slice (some ⟨g3, 0, none⟩) (q.l.length + 1) cap3, .map (some b1), .map (some b2), .map (some b3)]).heap.size := by simpa using hlt4
        clear hS
        generalize w3.setRow tb #[.int .i64 q.clock, .slice (some ⟨g3, 0, none⟩) (q.l.length + 1) cap3, .map (some b1), .map (some b2), .map (some b3)] = W7 at *
        clear hown4 hgrow4 hat4 hL4 h5
        have HG := Lib.hid hgv
        have HL7 := Lib.hid hlt7
        clear hgv hlt7
        go_wp2_with (refine wpList_store1 rfl 3 _ _ (by rfl) tb 0 (by rfl) (.int .i64 tick) (by rfl) hd7 (by simp) size3 rfl rfl ?_)
        go_ret
        refine ⟨rfl, (fun j => F j ∨ j = g3), .slice (some ⟨g3, 0, none⟩) (q.l.length + 1) cap3, L7.setRow (.inl h.ft) _, ?_, ?_, ?_⟩
        · rintro j (hj | rfl)
          · exact .inl hj
          · rcases HG.out with e | e
            · exact .inl (h.fo _ e)
            · exact .inr (by have := s1.size; omega)
        · rintro j (hj | rfl)
          · have := hF j hj; have := L7.size; simp; omega
          · have := HL7.out; simpa using this
        · exact {
            hd := setRow_heap _ _ _ _ _ _ hd7
            m1 := (M1.of_block (setRow_other _ _ _ _ h.ne.1.symm)).congr (f1_push hno1.out)
            m2 := (M2.of_block (setRow_other _ _ _ _ h.ne.2.1.symm)).congr (f2_push hno2.out)
            m3 := (M3.of_block (setRow_other _ _ _ _ h.ne.2.2.1.symm)).congr (f3_push hno3.out)
            ord := by
              have := World.ownsRow.kept hown7 (grown_setRow W7 tb #[.int .i64 tick, .slice (some ⟨g3, 0, none⟩) (q.l.length + 1) cap3, .map (some b1), .map (some b2), .map (some b3)]) (.inr (fun e => ng3 (by injection e with e; exact e.symm)))
              simpa [newTr] using this
            n12 := h.n12
            n13 := h.n13
            n23 := h.n23
            ft := .inl h.ft
            fb1 := .inl h.fb1
            fb2 := .inl h.fb2
            fb3 := .inl h.fb3
            fo := fun g hg => .inr (by injection hg with hg; exact hg.symm) }
end
end Go.Proofs.YtnooghehmgbemaaGreat
