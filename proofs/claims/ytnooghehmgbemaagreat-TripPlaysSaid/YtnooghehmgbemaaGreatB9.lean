/- Trip: Go, the ways that refuse. -/
import Derived.Test.YtnooghehmgbemaaGreatB8
namespace Go.Proofs.YtnooghehmgbemaaGreat
open Go.RowKit
set_option linter.unusedVariables false
set_option linter.unusedSimpArgs false

set_option maxHeartbeats 2000000 in
theorem go_nil (tick s : Int) (k : List Value) (hk : Bs 16 k) (w : World) : Calls Tryz.prog 16 #[.pointer none, .int .i64 tick, .agg k.toArray, .int .u8 s] w (Gives (.int .i64 2) w) := by
  go_enter Tryz.func16, Tryz.ntmps16
  go_wp2_with fail
  refine (at_nil tick _).mono ?_
  rintro e w' ⟨rfl, rfl⟩
  go_wp2_with fail
  go_ret
  exact gives_of_eq rfl ((Below.refl _ w).alloc (Nat.le_refl _) _)
set_option maxHeartbeats 2000000 in
theorem go_zero (tb : Nat) (tick s : Int) (k : List Value) (hk : Bs 16 k) (w : World) (cm : w.cell? ⟨tb, 2, none⟩ = some (.map none)) : Calls Tryz.prog 16 #[.pointer (some ⟨tb, 0, none⟩), .int .i64 tick, .agg k.toArray, .int .u8 s] w (Gives (.int .i64 2) w) := by
  have ltb : tb < w.heap.size := World.block_lt_of_cell? w _ cm
  go_enter Tryz.func16, Tryz.ntmps16
  go_wp2_with fail
  have b1 : Below w.heap.size w (w.alloc (.cells k.toArray 59)) := (Below.refl _ w).alloc (Nat.le_refl _) _
  refine (at_zero tb tick _ ((b1.cell (p := ⟨tb, 2, none⟩) ltb).trans cm)).mono ?_
  rintro e w' ⟨rfl, rfl⟩
  go_wp2_with fail
  go_ret
  exact gives_of_eq rfl b1
section
variable {F : Nat → Prop} {w : World} {tb b1 b2 b3 : Nat} {ov : Value} {q : St}
theorem atE_ne (tick clock : Int) : (atE tick clock == 2) = false := by
  unfold atE; split
  · rfl
  · split <;> rfl
theorem atE_cases (tick clock : Int) : atE tick clock = 1 ∨ atE tick clock = 4 ∨ atE tick clock = 0 := by
  unfold atE; split
  · exact .inl rfl
  · split
    · exact .inr (.inl rfl)
    · exact .inr (.inr rfl)
set_option maxHeartbeats 2000000 in
theorem go_arg (h : TripsIn F w tb b1 b2 b3 ov q) (tick s : Int) (k : List Value) (hk : Bs 16 k) (hs : s < 2 ∨ 5 < s) : Calls Tryz.prog 16 #[.pointer (some ⟨tb, 0, none⟩), .int .i64 tick, .agg k.toArray, .int .u8 s] w (Gives (.int .i64 1) w) := by
  have ltb := h.tb_lt
  obtain ⟨c0, c1, c2, c3, c4⟩ := h.c
  have HS := Lib.hid hs
  clear hs
  go_enter Tryz.func16, Tryz.ntmps16
  go_wp2_with fail
  have bb : Below w.heap.size w (w.alloc (.cells k.toArray 59)) := (Below.refl _ w).alloc (Nat.le_refl _) _
  refine (at_real tb b1 tick q.clock _ ((bb.cell (p := ⟨tb, 2, none⟩) ltb).trans c2) ((bb.cell (p := ⟨tb, 0, none⟩) ltb).trans c0)).mono ?_
  rintro e w' ⟨rfl, rfl⟩
  have ha := atE_ne tick q.clock
  by_cases h2 : s < 2
  · go_wp2_with fail
    go_ret
    exact gives_of_eq rfl bb
  · have h5 : 5 < s := by have := HS.out; omega
    go_wp2_with fail
    go_ret
    exact gives_of_eq rfl bb
set_option maxHeartbeats 2000000 in
theorem go_err (h : TripsIn F w tb b1 b2 b3 ov q) (tick s : Int) (k : List Value) (hk : Bs 16 k) (h2 : ¬ s < 2) (h5 : ¬ 5 < s) (he : atE tick q.clock ≠ 0) : Calls Tryz.prog 16 #[.pointer (some ⟨tb, 0, none⟩), .int .i64 tick, .agg k.toArray, .int .u8 s] w (Gives (.int .i64 (atE tick q.clock)) w) := by
  have ltb := h.tb_lt
  obtain ⟨c0, c1, c2, c3, c4⟩ := h.c
  go_enter Tryz.func16, Tryz.ntmps16
  go_wp2_with fail
  have bb : Below w.heap.size w (w.alloc (.cells k.toArray 59)) := (Below.refl _ w).alloc (Nat.le_refl _) _
  refine (at_real tb b1 tick q.clock _ ((bb.cell (p := ⟨tb, 2, none⟩) ltb).trans c2) ((bb.cell (p := ⟨tb, 0, none⟩) ltb).trans c0)).mono ?_
  rintro e w' ⟨rfl, rfl⟩
  have ha := atE_ne tick q.clock
  have hb : (atE tick q.clock != 0) = true := by simpa using he
  generalize atE tick q.clock = E at *
  go_wp2_with fail
  go_ret
  exact gives_of_eq rfl bb

set_option maxRecDepth 20000 in
set_option maxHeartbeats 4000000 in
theorem go_gone (h : TripsIn F w tb b1 b2 b3 ov q) (tick s : Int) (k : List Value) (hk : Bs 16 k) (h2 : ¬ s < 2) (h5 : ¬ 5 < s) (he : atE tick q.clock = 0) (hno : ∀ t ∈ q.l, t.k ≠ k) : Calls Tryz.prog 16 #[.pointer (some ⟨tb, 0, none⟩), .int .i64 tick, .agg k.toArray, .int .u8 s] w (Gives (.int .i64 131) w) := by
  have ltb := h.tb_lt
  obtain ⟨c0, c1, c2, c3, c4⟩ := h.c
  have lb1 := h.m1.lt
  have HL : Hid (∀ u : World, Below w.heap.size w u → (Instr.lookup 71 (.map (some b1)) (.agg k.toArray) true).run Tryz.prog u = .ok (.tuple #[.agg Z40, .bool false]) u) := Lib.hid fun u hu => by
    obtain ⟨kl, hkl⟩ := key_j hk
    exact (h.m1.of_block (hu.block b1 lb1)).look_none law25 Tryz.underlying71 ((zero_of_info zero40).1 u) hkl (fun v hv => by obtain ⟨t, ht, e, _⟩ := hv; exact hno t ht (agg_inj.1 e).symm) true
  go_enter Tryz.func16, Tryz.ntmps16
  go_wp2_with fail
  have bb : Below w.heap.size w (w.alloc (.cells k.toArray 59)) := (Below.refl _ w).alloc (Nat.le_refl _) _
  refine (at_real tb b1 tick q.clock _ ((bb.cell (p := ⟨tb, 2, none⟩) ltb).trans c2) ((bb.cell (p := ⟨tb, 0, none⟩) ltb).trans c0)).mono ?_
  rintro e w' ⟨rfl, rfl⟩
  rw [he]
  go_wp2_with fail
  refine wp_region_held_drew (S := (fun u => Below w.heap.size w u ∧ u.heap[w.heap.size]? = some (.cells k.toArray 59 (0, 0)) ∧ w.heap.size < u.heap.size)) (by kernel_rfl) (⟨bb.drew, heap_last w _, by show w.heap.size < _; simp⟩) ?_
  intro hS
  refine wpAnyH_take (i := 0) (oi := { dst := some 28, op := Op.move (Operand.tmp 0), type := 24, pos := "trip.go:82", after := #[], guard := none }) (v := .pointer (some ⟨tb, 0, none⟩)) rfl (by kernel_rfl) (by kernel_rfl) (by kernel_rfl) (fun _ _ _ h => h) (Or.inl ⟨by rfl, ?_⟩) (by assumption) ?_
  · intro z hz
    go_simp
  try simp only [Act.put, List.setIfInBounds_toArray, List.set_cons_zero, List.set_cons_succ]
  refine wpAnyH_take (i := 1) (oi := { dst := some 29, op := Op.nilCheck (Operand.tmp 28), type := 0, pos := "trip.go:82", after := #[{ on := 0, ground := Ground.data }], guard := none }) (v := .pointer (some ⟨tb, 0, none⟩)) rfl (by kernel_rfl) (by kernel_rfl) (by kernel_rfl) (fun _ _ _ h => h) (Or.inl ⟨by rfl, ?_⟩) (by assumption) ?_
  · intro z hz
    go_simp
  try simp only [Act.put, List.setIfInBounds_toArray, List.set_cons_zero, List.set_cons_succ]
  refine wpAnyH_take (i := 2) (oi := { dst := some 30, op := Op.fieldAddr 75 (Operand.tmp 29) 2, type := 0, pos := "trip.go:82", after := #[{ on := 1, ground := Ground.data }], guard := none }) (v := .pointer (some ⟨tb, 2, none⟩)) rfl (by kernel_rfl) (by kernel_rfl) (by kernel_rfl) (fun _ _ _ h => h) (Or.inl ⟨by rfl, ?_⟩) (by assumption) ?_
  · intro z hz
    go_simp
  try simp only [Act.put, List.setIfInBounds_toArray, List.set_cons_zero, List.set_cons_succ]
  refine wpAnyH_take (i := 3) (oi := { dst := some 31, op := Op.load 71 (Operand.tmp 30), type := 71, pos := "trip.go:82", after := #[{ on := 2, ground := Ground.data }], guard := none }) (v := .map (some b1)) rfl (by kernel_rfl) (by kernel_rfl) (by kernel_rfl) (fun _ _ _ h => h) (Or.inl ⟨by rfl, ?_⟩) (by assumption) ?_
  · intro z hz
    have c := (hz.1.cell (p := ⟨tb, 2, none⟩) ltb).trans c2
    go_simp
  try simp only [Act.put, List.setIfInBounds_toArray, List.set_cons_zero, List.set_cons_succ]
  refine wpAnyH_take (i := 4) (oi := { dst := some 32, op := Op.load 59 (Operand.tmp 6), type := 59, pos := "trip.go:82", after := #[], guard := none }) (v := .agg k.toArray) rfl (by kernel_rfl) (by kernel_rfl) (by kernel_rfl) (fun _ _ _ h => h) (yields_loadrow (by rfl) 59 _ (by rfl) w.heap.size (by rfl) k.toArray 59 _ (fun u hu => hu.2.1) Tryz.underlying59 rfl (by rw [List.size_toArray, hk.1]; exact size25)) (by assumption) ?_
  try simp only [Act.put, List.setIfInBounds_toArray, List.set_cons_zero, List.set_cons_succ]
  refine wpAnyH_take (i := 5) (oi := { dst := some 33, op := Op.lookup 71 (Operand.tmp 31) (Operand.tmp 32) true, type := 84, pos := "trip.go:82", after := #[{ on := 3, ground := Ground.data }, { on := 4, ground := Ground.data }], guard := none }) (v := .tuple #[.agg Z40, .bool false]) rfl (by kernel_rfl) (by kernel_rfl) (by kernel_rfl) (fun _ _ _ h => h) (yields_lookup (by rfl) 71 _ _ true (by rfl) (.map (some b1)) (.agg k.toArray) _ (by rfl) (by rfl) (fun u hu => HL.out u hu.1)) (by assumption) ?_
  try simp only [Act.put, List.setIfInBounds_toArray, List.set_cons_zero, List.set_cons_succ]
  refine wpAnyH_take (i := 6) (oi := { dst := some 27, op := Op.move (Operand.tmp 33), type := 84, pos := "trip.go:82", after := #[{ on := 5, ground := Ground.data }], guard := none }) (v := .tuple #[.agg Z40, .bool false]) rfl (by kernel_rfl) (by kernel_rfl) (by kernel_rfl) (fun _ _ _ h => h) (Or.inl ⟨by rfl, ?_⟩) (by assumption) ?_
  · intro z hz
    go_simp
  try simp only [Act.put, List.setIfInBounds_toArray, List.set_cons_zero, List.set_cons_succ]
  refine wpAnyH_take (i := 7) (oi := { dst := some 34, op := Op.extract (Operand.tmp 27) 0, type := 83, pos := "trip.go:82", after := #[{ on := 6, ground := Ground.data }], guard := none }) (v := .agg Z40) rfl (by kernel_rfl) (by kernel_rfl) (by kernel_rfl) (fun _ _ _ h => h) (Or.inl ⟨by rfl, ?_⟩) (by assumption) ?_
  · intro z hz
    go_simp
  try simp only [Act.put, List.setIfInBounds_toArray, List.set_cons_zero, List.set_cons_succ]
  refine wpAnyH_take (i := 8) (oi := { dst := some 35, op := Op.extract (Operand.tmp 27) 1, type := 4, pos := "trip.go:82", after := #[{ on := 6, ground := Ground.data }, { on := 10, ground := Ground.gcOnly Departure.lateStores }], guard := none }) (v := .bool false) rfl (by kernel_rfl) (by kernel_rfl) (by kernel_rfl) (fun _ _ _ h => h) (Or.inl ⟨by rfl, ?_⟩) (by assumption) ?_
  · intro z hz
    go_simp
  try simp only [Act.put, List.setIfInBounds_toArray, List.set_cons_zero, List.set_cons_succ]
  refine wpAnyH_ready (rs := [9]) (by kernel_rfl) (by simp) ?_
  refine AllReadyH.cons (o := { dst := some 10, op := Op.alloc 83, type := 0, pos := "trip.go:82", after := #[], guard := none }) rfl (fun K hK => ?_) AllReadyH.nil
  rw [if_pos (by rfl)]
  refine wp_allocz 83 (by rfl) Z40 23 zero40 ?_
  refine hK.out _ _ (⟨hS.1.alloc hS.1.size _, (Below.heap_alloc _ _ _ hS.2.2).trans hS.2.1, by have := hS.2.2; simp <;> omega⟩) ?_
  clear hK K
  intro hS
  try simp only [Act.put, List.setIfInBounds_toArray, List.set_cons_zero, List.set_cons_succ]
  refine wpAnyH_ready (rs := [10]) (by kernel_rfl) (by simp) ?_
  refine AllReadyH.cons (o := { dst := none, op := Op.store 83 (Operand.tmp 10) (Operand.tmp 34), type := 0, pos := "trip.go:82", after := #[{ on := 9, ground := Ground.data }, { on := 7, ground := Ground.data }, { on := 0, ground := Ground.phase }, { on := 1, ground := Ground.phase }, { on := 2, ground := Ground.phase }, { on := 3, ground := Ground.phase }, { on := 4, ground := Ground.phase }, { on := 5, ground := Ground.phase }, { on := 6, ground := Ground.phase }, { on := 7, ground := Ground.phase }, { on := 8, ground := Ground.textOnly Departure.lateStores }, { on := 9, ground := Ground.phase }], guard := none }) rfl (fun K hK => ?_) AllReadyH.nil
  rw [if_pos (by rfl)]
  refine wp_storerow 83 _ _ (by rfl) _ (by rfl) Z40 Z40 (by rfl) (heap_last _ _) (by rw [z40s]; exact size40) (z40s.trans z40s.symm) z40o ?_
  refine hK.out _ _ (⟨Below.setRow hS.1 bb.size _, (setRow_other _ _ _ _ (by show w.heap.size ≠ (w.alloc (.cells k.toArray 59)).heap.size; simp <;> omega)).trans hS.2.1, by have := hS.2.2; simp at this ⊢ <;> omega⟩) ?_
  clear hK K
  intro hS
  try simp only [Act.put, List.setIfInBounds_toArray, List.set_cons_zero, List.set_cons_succ]
  refine wpAnyH_take (i := 11) (oi := { dst := some 11, op := Op.assign (Operand.tmp 35), type := 4, pos := "trip.go:82", after := #[{ on := 8, ground := Ground.data }, { on := 10, ground := Ground.chain }, { on := 0, ground := Ground.phase }, { on := 1, ground := Ground.phase }, { on := 2, ground := Ground.phase }, { on := 3, ground := Ground.phase }, { on := 4, ground := Ground.phase }, { on := 5, ground := Ground.phase }, { on := 6, ground := Ground.phase }, { on := 7, ground := Ground.phase }, { on := 8, ground := Ground.phase }, { on := 9, ground := Ground.phase }, { on := 10, ground := Ground.phase }], guard := none }) (v := .bool false) rfl (by kernel_rfl) (by kernel_rfl) (by kernel_rfl) (fun _ _ _ h => h) (Or.inl ⟨by rfl, ?_⟩) (by assumption) ?_
  · intro z hz
    go_simp
  try simp only [Act.put, List.setIfInBounds_toArray, List.set_cons_zero, List.set_cons_succ]
  refine wpAnyH_done (by kernel_rfl) ?_ _
  have h6 : (((w.alloc (.cells k.toArray 59)).drew.alloc (.cells Z40 83)).setRow (w.alloc (.cells k.toArray 59)).drew.heap.size Z40).heap[(w.alloc (.cells k.toArray 59)).drew.heap.size]? = some (.cells Z40 83 (0, 0)) := setRow_heap _ _ _ _ _ _ (heap_last _ _)
  have hb10 := Lib.hid (show (w.alloc (.cells k.toArray 59)).drew.heap.size = w.heap.size + 1 by show (w.alloc (.cells k.toArray 59)).heap.size = _; simp)
  have hz10 : (w.alloc (.cells k.toArray 59)).drew.heap.size < (((w.alloc (.cells k.toArray 59)).drew.alloc (.cells Z40 83)).setRow (w.alloc (.cells k.toArray 59)).drew.heap.size Z40).heap.size := by simp
  obtain ⟨s1, s2, s3⟩ := hS
  generalize ((w.alloc (.cells k.toArray 59)).drew.alloc (.cells Z40 83)).setRow (w.alloc (.cells k.toArray 59)).drew.heap.size Z40 = W3 at *
  generalize (w.alloc (.cells k.toArray 59)).drew.heap.size = b10 at *
  go_wp2_with fail
  go_ret
  exact gives_of_eq rfl s1

set_option maxRecDepth 20000 in
set_option maxHeartbeats 4000000 in
theorem go_state (h : TripsIn F w tb b1 b2 b3 ov q) (tick s : Int) (k : List Value) (hk : Bs 16 k) (h2 : ¬ s < 2) (h5 : ¬ 5 < s) (he : atE tick q.clock = 0) (hok : ∀ t ∈ q.l, t.ok) (t : Tr) (ht : t ∈ q.l) (hkt : t.k = k) (hf : fol t.s s = false) : Calls Tryz.prog 16 #[.pointer (some ⟨tb, 0, none⟩), .int .i64 tick, .agg k.toArray, .int .u8 s] w (Gives (.int .i64 240) w) := by
  have ltb := h.tb_lt
  obtain ⟨c0, c1, c2, c3, c4⟩ := h.c
  have lb1 := h.m1.lt
  have hto := hok t ht
  have htk : t.k = k := hkt
  have hts : t.cells.toArray.size = 23 := by rw [List.size_toArray, hto.length]
  have ht1 : t.cells.toArray.all (·.oneCell') = true := all_oneCell_toArray hto.one
  have HL : Hid (∀ u : World, Below w.heap.size w u → (Instr.lookup 71 (.map (some b1)) (.agg k.toArray) true).run Tryz.prog u = .ok (.tuple #[.agg t.cells.toArray, .bool true]) u) := Lib.hid fun u hu => by
    obtain ⟨kl, hkl⟩ := key_j hk
    exact (h.m1.of_block (hu.block b1 lb1)).look_some law25 Tryz.underlying71 hkl ⟨t, ht, by rw [htk], rfl⟩ true
  go_enter Tryz.func16, Tryz.ntmps16
  go_wp2_with fail
  have bb : Below w.heap.size w (w.alloc (.cells k.toArray 59)) := (Below.refl _ w).alloc (Nat.le_refl _) _
  refine (at_real tb b1 tick q.clock _ ((bb.cell (p := ⟨tb, 2, none⟩) ltb).trans c2) ((bb.cell (p := ⟨tb, 0, none⟩) ltb).trans c0)).mono ?_
  rintro e w' ⟨rfl, rfl⟩
  rw [he]
  go_wp2_with fail
  refine wp_region_held_drew (S := (fun u => Below w.heap.size w u ∧ u.heap[w.heap.size]? = some (.cells k.toArray 59 (0, 0)) ∧ w.heap.size < u.heap.size)) (by kernel_rfl) (⟨bb.drew, heap_last w _, by show w.heap.size < _; simp⟩) ?_
  intro hS
  refine wpAnyH_take (i := 0) (oi := { dst := some 28, op := Op.move (Operand.tmp 0), type := 24, pos := "trip.go:82", after := #[], guard := none }) (v := .pointer (some ⟨tb, 0, none⟩)) rfl (by kernel_rfl) (by kernel_rfl) (by kernel_rfl) (fun _ _ _ h => h) (Or.inl ⟨by rfl, ?_⟩) (by assumption) ?_
  · intro z hz
    go_simp
  try simp only [Act.put, List.setIfInBounds_toArray, List.set_cons_zero, List.set_cons_succ]
  refine wpAnyH_take (i := 1) (oi := { dst := some 29, op := Op.nilCheck (Operand.tmp 28), type := 0, pos := "trip.go:82", after := #[{ on := 0, ground := Ground.data }], guard := none }) (v := .pointer (some ⟨tb, 0, none⟩)) rfl (by kernel_rfl) (by kernel_rfl) (by kernel_rfl) (fun _ _ _ h => h) (Or.inl ⟨by rfl, ?_⟩) (by assumption) ?_
  · intro z hz
    go_simp
  try simp only [Act.put, List.setIfInBounds_toArray, List.set_cons_zero, List.set_cons_succ]
  refine wpAnyH_take (i := 2) (oi := { dst := some 30, op := Op.fieldAddr 75 (Operand.tmp 29) 2, type := 0, pos := "trip.go:82", after := #[{ on := 1, ground := Ground.data }], guard := none }) (v := .pointer (some ⟨tb, 2, none⟩)) rfl (by kernel_rfl) (by kernel_rfl) (by kernel_rfl) (fun _ _ _ h => h) (Or.inl ⟨by rfl, ?_⟩) (by assumption) ?_
  · intro z hz
    go_simp
  try simp only [Act.put, List.setIfInBounds_toArray, List.set_cons_zero, List.set_cons_succ]
  refine wpAnyH_take (i := 3) (oi := { dst := some 31, op := Op.load 71 (Operand.tmp 30), type := 71, pos := "trip.go:82", after := #[{ on := 2, ground := Ground.data }], guard := none }) (v := .map (some b1)) rfl (by kernel_rfl) (by kernel_rfl) (by kernel_rfl) (fun _ _ _ h => h) (Or.inl ⟨by rfl, ?_⟩) (by assumption) ?_
  · intro z hz
    have c := (hz.1.cell (p := ⟨tb, 2, none⟩) ltb).trans c2
    go_simp
  try simp only [Act.put, List.setIfInBounds_toArray, List.set_cons_zero, List.set_cons_succ]
  refine wpAnyH_take (i := 4) (oi := { dst := some 32, op := Op.load 59 (Operand.tmp 6), type := 59, pos := "trip.go:82", after := #[], guard := none }) (v := .agg k.toArray) rfl (by kernel_rfl) (by kernel_rfl) (by kernel_rfl) (fun _ _ _ h => h) (yields_loadrow (by rfl) 59 _ (by rfl) w.heap.size (by rfl) k.toArray 59 _ (fun u hu => hu.2.1) Tryz.underlying59 rfl (by rw [List.size_toArray, hk.1]; exact size25)) (by assumption) ?_
  try simp only [Act.put, List.setIfInBounds_toArray, List.set_cons_zero, List.set_cons_succ]
  refine wpAnyH_take (i := 5) (oi := { dst := some 33, op := Op.lookup 71 (Operand.tmp 31) (Operand.tmp 32) true, type := 84, pos := "trip.go:82", after := #[{ on := 3, ground := Ground.data }, { on := 4, ground := Ground.data }], guard := none }) (v := .tuple #[.agg t.cells.toArray, .bool true]) rfl (by kernel_rfl) (by kernel_rfl) (by kernel_rfl) (fun _ _ _ h => h) (yields_lookup (by rfl) 71 _ _ true (by rfl) (.map (some b1)) (.agg k.toArray) _ (by rfl) (by rfl) (fun u hu => HL.out u hu.1)) (by assumption) ?_
  try simp only [Act.put, List.setIfInBounds_toArray, List.set_cons_zero, List.set_cons_succ]
  refine wpAnyH_take (i := 6) (oi := { dst := some 27, op := Op.move (Operand.tmp 33), type := 84, pos := "trip.go:82", after := #[{ on := 5, ground := Ground.data }], guard := none }) (v := .tuple #[.agg t.cells.toArray, .bool true]) rfl (by kernel_rfl) (by kernel_rfl) (by kernel_rfl) (fun _ _ _ h => h) (Or.inl ⟨by rfl, ?_⟩) (by assumption) ?_
  · intro z hz
    go_simp
  try simp only [Act.put, List.setIfInBounds_toArray, List.set_cons_zero, List.set_cons_succ]
  refine wpAnyH_take (i := 7) (oi := { dst := some 34, op := Op.extract (Operand.tmp 27) 0, type := 83, pos := "trip.go:82", after := #[{ on := 6, ground := Ground.data }], guard := none }) (v := .agg t.cells.toArray) rfl (by kernel_rfl) (by kernel_rfl) (by kernel_rfl) (fun _ _ _ h => h) (Or.inl ⟨by rfl, ?_⟩) (by assumption) ?_
  · intro z hz
    go_simp
  try simp only [Act.put, List.setIfInBounds_toArray, List.set_cons_zero, List.set_cons_succ]
  refine wpAnyH_take (i := 8) (oi := { dst := some 35, op := Op.extract (Operand.tmp 27) 1, type := 4, pos := "trip.go:82", after := #[{ on := 6, ground := Ground.data }, { on := 10, ground := Ground.gcOnly Departure.lateStores }], guard := none }) (v := .bool true) rfl (by kernel_rfl) (by kernel_rfl) (by kernel_rfl) (fun _ _ _ h => h) (Or.inl ⟨by rfl, ?_⟩) (by assumption) ?_
  · intro z hz
    go_simp
  try simp only [Act.put, List.setIfInBounds_toArray, List.set_cons_zero, List.set_cons_succ]
  refine wpAnyH_ready (rs := [9]) (by kernel_rfl) (by simp) ?_
  refine AllReadyH.cons (o := { dst := some 10, op := Op.alloc 83, type := 0, pos := "trip.go:82", after := #[], guard := none }) rfl (fun K hK => ?_) AllReadyH.nil
  rw [if_pos (by rfl)]
  refine wp_allocz 83 (by rfl) Z40 23 zero40 ?_
  refine hK.out _ _ (⟨hS.1.alloc hS.1.size _, (Below.heap_alloc _ _ _ hS.2.2).trans hS.2.1, by have := hS.2.2; simp <;> omega⟩) ?_
  clear hK K
  intro hS
  try simp only [Act.put, List.setIfInBounds_toArray, List.set_cons_zero, List.set_cons_succ]
  refine wpAnyH_ready (rs := [10]) (by kernel_rfl) (by simp) ?_
  refine AllReadyH.cons (o := { dst := none, op := Op.store 83 (Operand.tmp 10) (Operand.tmp 34), type := 0, pos := "trip.go:82", after := #[{ on := 9, ground := Ground.data }, { on := 7, ground := Ground.data }, { on := 0, ground := Ground.phase }, { on := 1, ground := Ground.phase }, { on := 2, ground := Ground.phase }, { on := 3, ground := Ground.phase }, { on := 4, ground := Ground.phase }, { on := 5, ground := Ground.phase }, { on := 6, ground := Ground.phase }, { on := 7, ground := Ground.phase }, { on := 8, ground := Ground.textOnly Departure.lateStores }, { on := 9, ground := Ground.phase }], guard := none }) rfl (fun K hK => ?_) AllReadyH.nil
  rw [if_pos (by rfl)]
  refine wp_storerow 83 _ _ (by rfl) _ (by rfl) Z40 t.cells.toArray (by rfl) (heap_last _ _) (by rw [hts]; exact size40) (z40s.trans hts.symm) ht1 ?_
  refine hK.out _ _ (⟨Below.setRow hS.1 bb.size _, (setRow_other _ _ _ _ (by show w.heap.size ≠ (w.alloc (.cells k.toArray 59)).heap.size; simp <;> omega)).trans hS.2.1, by have := hS.2.2; simp at this ⊢ <;> omega⟩) ?_
  clear hK K
  intro hS
  try simp only [Act.put, List.setIfInBounds_toArray, List.set_cons_zero, List.set_cons_succ]
  refine wpAnyH_take (i := 11) (oi := { dst := some 11, op := Op.assign (Operand.tmp 35), type := 4, pos := "trip.go:82", after := #[{ on := 8, ground := Ground.data }, { on := 10, ground := Ground.chain }, { on := 0, ground := Ground.phase }, { on := 1, ground := Ground.phase }, { on := 2, ground := Ground.phase }, { on := 3, ground := Ground.phase }, { on := 4, ground := Ground.phase }, { on := 5, ground := Ground.phase }, { on := 6, ground := Ground.phase }, { on := 7, ground := Ground.phase }, { on := 8, ground := Ground.phase }, { on := 9, ground := Ground.phase }, { on := 10, ground := Ground.phase }], guard := none }) (v := .bool true) rfl (by kernel_rfl) (by kernel_rfl) (by kernel_rfl) (fun _ _ _ h => h) (Or.inl ⟨by rfl, ?_⟩) (by assumption) ?_
  · intro z hz
    go_simp
  try simp only [Act.put, List.setIfInBounds_toArray, List.set_cons_zero, List.set_cons_succ]
  refine wpAnyH_done (by kernel_rfl) ?_ _
  have h6 : (((w.alloc (.cells k.toArray 59)).drew.alloc (.cells Z40 83)).setRow (w.alloc (.cells k.toArray 59)).drew.heap.size t.cells.toArray).heap[(w.alloc (.cells k.toArray 59)).drew.heap.size]? = some (.cells t.cells.toArray 83 (0, 0)) := setRow_heap _ _ _ _ _ _ (heap_last _ _)
  have hb10 := Lib.hid (show (w.alloc (.cells k.toArray 59)).drew.heap.size = w.heap.size + 1 by show (w.alloc (.cells k.toArray 59)).heap.size = _; simp)
  have hz10 : (w.alloc (.cells k.toArray 59)).drew.heap.size < (((w.alloc (.cells k.toArray 59)).drew.alloc (.cells Z40 83)).setRow (w.alloc (.cells k.toArray 59)).drew.heap.size t.cells.toArray).heap.size := by simp
  obtain ⟨s1, s2, s3⟩ := hS
  generalize ((w.alloc (.cells k.toArray 59)).drew.alloc (.cells Z40 83)).setRow (w.alloc (.cells k.toArray 59)).drew.heap.size t.cells.toArray = W3 at *
  generalize (w.alloc (.cells k.toArray 59)).drew.heap.size = b10 at *
  have c16 : W3.cell? ⟨b10, 16, none⟩ = some (.int .u8 t.s) := by
    rw [cell_of_row W3 b10 16 _ _ _ h6, List.getElem?_toArray, Tr.cells, List.getElem?_append_right (by rw [hto.k.1]; omega), hto.k.1]; rfl
  go_wp2_with fail
  refine (follows_ok t.s s _).mono ?_
  rintro e w' ⟨rfl, x, rfl⟩
  rw [hf]
  go_wp2_with fail
  go_ret
  exact gives_of_eq rfl (s1.trans (x.h.mono s1.size))
end
end Go.Proofs.YtnooghehmgbemaaGreat
