/- Trip: Go turns a trip. -/
import Derived.Test.YtnooghehmgbemaaGreatB10
namespace Go.Proofs.YtnooghehmgbemaaGreat
open Go.RowKit
set_option linter.unusedVariables false
set_option linter.unusedSimpArgs false
section
variable {F : Nat → Prop} {w : World} {tb b1 b2 b3 : Nat} {ov : Value} {q : St}

set_option maxRecDepth 20000 in
set_option maxHeartbeats 8000000 in
theorem go_ok (h : TripsIn F w tb b1 b2 b3 ov q) (hq : q.ok) (hF : ∀ j, F j → j < w.heap.size) (tick s : Int) (k : List Value) (hk : Bs 16 k) (he : atE tick q.clock = 0) (t : Tr) (ht : t ∈ q.l) (hkt : t.k = k) (hf : fol t.s s = true) :
    Calls Tryz.prog 16 #[.pointer (some ⟨tb, 0, none⟩), .int .i64 tick, .agg k.toArray, .int .u8 s] w fun e w' => e = .returned (.int .i64 0) ∧ Lies F w w' ∧ TripsIn F w' tb b1 b2 b3 ov ⟨tick, q.l.map (turn k s tick)⟩ := by
  subst hkt
  obtain ⟨hwas, hs⟩ := fol_on hf
  have hon : t.on := by unfold Tr.on; omega
  have hok := hq.ok
  obtain ⟨n, hn, n2, n5⟩ : ∃ n : Nat, s = n ∧ 2 ≤ n ∧ n ≤ 5 := ⟨s.toNat, by omega, by omega, by omega⟩
  subst hn
  have h2 : ¬ ((n : Int) < 2) := by omega
  have h5 : ¬ (5 < (n : Int)) := by omega
  have h1 := h.m1
  have hF1 := Lib.hid hf
  have HS := Lib.hid hs
  clear hs
  have ltb := h.tb_lt
  obtain ⟨c0, c1, c2, c3, c4⟩ := h.c
  have lb1 := h.m1.lt
  have hto := hok t ht
  have hts : t.cells.toArray.size = 23 := by rw [List.size_toArray, hto.length]
  have ht1 : t.cells.toArray.all (·.oneCell') = true := all_oneCell_toArray hto.one
  have HL : Hid (∀ u : World, Below w.heap.size w u → (Instr.lookup 71 (.map (some b1)) (.agg t.k.toArray) true).run Tryz.prog u = .ok (.tuple #[.agg t.cells.toArray, .bool true]) u) := Lib.hid fun u hu => by
    obtain ⟨kl, hkl⟩ := key_j hk
    exact (h.m1.of_block (hu.block b1 lb1)).look_some law25 Tryz.underlying71 hkl ⟨t, ht, rfl, rfl⟩ true
  go_enter Tryz.func16, Tryz.ntmps16
  go_wp2_with fail
  have bb : Below w.heap.size w (w.alloc (.cells t.k.toArray 59)) := (Below.refl _ w).alloc (Nat.le_refl _) _
  refine (at_real tb b1 tick q.clock _ ((bb.cell (p := ⟨tb, 2, none⟩) ltb).trans c2) ((bb.cell (p := ⟨tb, 0, none⟩) ltb).trans c0)).mono ?_
  rintro e w' ⟨rfl, rfl⟩
  rw [he]
  go_wp2_with fail
  refine wp_region_held_drew (S := (fun u => Below w.heap.size w u ∧ u.heap[w.heap.size]? = some (.cells t.k.toArray 59 (0, 0)) ∧ w.heap.size < u.heap.size)) (by kernel_rfl) (⟨bb.drew, heap_last w _, by show w.heap.size < _; simp⟩) ?_
  intro hS
  refine wpAnyH_take (i := 0) (oi := { dst := some 28, op := Op.move (Operand.tmp 0), type := 24, pos := "trip.go:82", after := #[], guard := none }) (v := .pointer (some ⟨tb, 0, none⟩)) rfl (by kernel_rfl) (by kernel_rfl) (by kernel_rfl) (fun _ _ _ h => h) (Or.inl ⟨by rfl, ?_⟩) (by assumption) ?_
  · intro z hz
    go_simp
  try simp only [Act.put, List.setIfInBounds_toArray, List.set_cons_zero, List.set_cons_succ]
  refine wpAnyH_take (i := 1) (oi := { dst := some 29, op := Op.nilCheck (Operand.tmp 28), type := 0, pos := "trip.go:82", after := #[{ on := 0, ground := Ground.data }], guard := none }) (v := .pointer (some ⟨tb, 0, none⟩)) rfl (by kernel_rfl) (by kernel_rfl) (by kernel_rfl) (fun _ _ _ h => h) (Or.inl ⟨by rfl, ?_⟩) (by assumption) ?_
  · intro z hz
    go_simp
  try simp only [Act.put, List.setIfInBounds_toArray, List.set_cons_zero, List.set_cons_succ]
  refine wpAnyH_take (i := 2) (oi := { dst := some 30, op := Op.fieldAddr 75 (Operand.tmp 29) 2, type := 0, pos := "trip.go:82", after := #[{ on := 1, ground := Ground.data }], guard := none }) (v := .pointer (some ⟨tb, 2, none⟩)) rfl (by kernel_rfl) (by kernel_rfl) (by kernel_rfl) (fun _ _ _ h => h) (Or.inl ⟨by rfl, ?_⟩) (by assumption) ?_
  · intro z hz
    go_simp
  try simp only [Act.put, List.setIfInBounds_toArray, List.set_cons_zero, List.set_cons_succ]
  refine wpAnyH_take (i := 3) (oi := { dst := some 31, op := Op.load 71 (Operand.tmp 30), type := 71, pos := "trip.go:82", after := #[{ on := 2, ground := Ground.data }], guard := none }) (v := .map (some b1)) rfl (by kernel_rfl) (by kernel_rfl) (by kernel_rfl) (fun _ _ _ h => h) (Or.inl ⟨by rfl, ?_⟩) (by assumption) ?_
  · intro z hz
    have c := (hz.1.cell (p := ⟨tb, 2, none⟩) ltb).trans c2
    go_simp
  try simp only [Act.put, List.setIfInBounds_toArray, List.set_cons_zero, List.set_cons_succ]
  refine wpAnyH_take (i := 4) (oi := { dst := some 32, op := Op.load 59 (Operand.tmp 6), type := 59, pos := "trip.go:82", after := #[], guard := none }) (v := .agg t.k.toArray) rfl (by kernel_rfl) (by kernel_rfl) (by kernel_rfl) (fun _ _ _ h => h) (yields_loadrow (by rfl) 59 _ (by rfl) w.heap.size (by rfl) t.k.toArray 59 _ (fun u hu => hu.2.1) Tryz.underlying59 rfl (by rw [List.size_toArray, hk.1]; exact size25)) (by assumption) ?_
  try simp only [Act.put, List.setIfInBounds_toArray, List.set_cons_zero, List.set_cons_succ]
  refine wpAnyH_take (i := 5) (oi := { dst := some 33, op := Op.lookup 71 (Operand.tmp 31) (Operand.tmp 32) true, type := 84, pos := "trip.go:82", after := #[{ on := 3, ground := Ground.data }, { on := 4, ground := Ground.data }], guard := none }) (v := .tuple #[.agg t.cells.toArray, .bool true]) rfl (by kernel_rfl) (by kernel_rfl) (by kernel_rfl) (fun _ _ _ h => h) (yields_lookup (by rfl) 71 _ _ true (by rfl) (.map (some b1)) (.agg t.k.toArray) _ (by rfl) (by rfl) (fun u hu => HL.out u hu.1)) (by assumption) ?_
  try simp only [Act.put, List.setIfInBounds_toArray, List.set_cons_zero, List.set_cons_succ]
  refine wpAnyH_take (i := 6) (oi := { dst := some 27, op := Op.move (Operand.tmp 33), type := 84, pos := "trip.go:82", after := #[{ on := 5, ground := Ground.data }], guard := none }) (v := .tuple #[.agg t.cells.toArray, .bool true]) rfl (by kernel_rfl) (by kernel_rfl) (by kernel_rfl) (fun _ _ _ h => h) (Or.inl ⟨by rfl, ?_⟩) (by assumption) ?_
  · intro z hz
    go_simp
  try simp only [Act.put, List.setIfInBounds_toArray, List.set_cons_zero, List.set_cons_succ]
  refine wpAnyH_take (i := 7) (oi := { dst := some 34, op := Op.extract (Operand.tmp 27) 0, type := 83, pos := "trip.go:82", after := #[{ on := 6, ground := Ground.data }], guard := none }) (v := .agg t.cells.toArray) rfl (by kernel_rfl) (by kernel_rfl) (by kernel_rfl) (fun _ _ _ h => h) (Or.inl ⟨by rfl, ?_⟩) (by assumption) ?_
  · intro z hz
    go_simp
  try simp only [Act.put, List.setIfInBounds_toArray, List.set_cons_zero, List.set_cons_succ]
  refine wpAnyH_take (i := 8) (oi := { dst := some 35, op := Op.extract (Operand.tmp 27) 1, type := 4, pos := "trip.go:82", after := #[{ on := 6, ground := Ground.data }, { on := 10, ground := Ground.gcOnly Departure.lateStores }], guard := none }) (v := .bool true) rfl (by kernel_rfl) (by kernel_rfl) (by kernel_rfl) (fun _ _ _ h => h) (Or.inl ⟨by rfl, ?_⟩) (by assumption) ?_
  · intro z hz
    go_simp
  try simp only [Act.put, List.setIfInBounds_toArray, List.set_cons_zero, List.set_cons_succ]
  refine wpAnyH_ready (rs := [9]) (by kernel_rfl) (by simp) ?_
  refine AllReadyH.cons (o := { dst := some 10, op := Op.alloc 83, type := 0, pos := "trip.go:82", after := #[], guard := none }) rfl (fun K hK => ?_) AllReadyH.nil
  rw [if_pos (by rfl)]
  refine wp_allocz 83 (by rfl) Z40 23 zero40 ?_
  refine hK.out _ _ (⟨hS.1.alloc hS.1.size _, (Below.heap_alloc _ _ _ hS.2.2).trans hS.2.1, by have := hS.2.2; simp <;> omega⟩) ?_
  clear hK K
  intro hS
  try simp only [Act.put, List.setIfInBounds_toArray, List.set_cons_zero, List.set_cons_succ]
  refine wpAnyH_ready (rs := [10]) (by kernel_rfl) (by simp) ?_
  refine AllReadyH.cons (o := { dst := none, op := Op.store 83 (Operand.tmp 10) (Operand.tmp 34), type := 0, pos := "trip.go:82", after := #[{ on := 9, ground := Ground.data }, { on := 7, ground := Ground.data }, { on := 0, ground := Ground.phase }, { on := 1, ground := Ground.phase }, { on := 2, ground := Ground.phase }, { on := 3, ground := Ground.phase }, { on := 4, ground := Ground.phase }, { on := 5, ground := Ground.phase }, { on := 6, ground := Ground.phase }, { on := 7, ground := Ground.phase }, { on := 8, ground := Ground.textOnly Departure.lateStores }, { on := 9, ground := Ground.phase }], guard := none }) rfl (fun K hK => ?_) AllReadyH.nil
  rw [if_pos (by rfl)]
  refine wp_storerow 83 _ _ (by rfl) _ (by rfl) Z40 t.cells.toArray (by rfl) (heap_last _ _) (by rw [hts]; exact size40) (z40s.trans hts.symm) ht1 ?_
  refine hK.out _ _ (⟨Below.setRow hS.1 bb.size _, (setRow_other _ _ _ _ (by show w.heap.size ≠ (w.alloc (.cells t.k.toArray 59)).heap.size; simp <;> omega)).trans hS.2.1, by have := hS.2.2; simp at this ⊢ <;> omega⟩) ?_
  clear hK K
  intro hS
  try simp only [Act.put, List.setIfInBounds_toArray, List.set_cons_zero, List.set_cons_succ]
  refine wpAnyH_take (i := 11) (oi := { dst := some 11, op := Op.assign (Operand.tmp 35), type := 4, pos := "trip.go:82", after := #[{ on := 8, ground := Ground.data }, { on := 10, ground := Ground.chain }, { on := 0, ground := Ground.phase }, { on := 1, ground := Ground.phase }, { on := 2, ground := Ground.phase }, { on := 3, ground := Ground.phase }, { on := 4, ground := Ground.phase }, { on := 5, ground := Ground.phase }, { on := 6, ground := Ground.phase }, { on := 7, ground := Ground.phase }, { on := 8, ground := Ground.phase }, { on := 9, ground := Ground.phase }, { on := 10, ground := Ground.phase }], guard := none }) (v := .bool true) rfl (by kernel_rfl) (by kernel_rfl) (by kernel_rfl) (fun _ _ _ h => h) (Or.inl ⟨by rfl, ?_⟩) (by assumption) ?_
  · intro z hz
    go_simp
  try simp only [Act.put, List.setIfInBounds_toArray, List.set_cons_zero, List.set_cons_succ]
  refine wpAnyH_done (by kernel_rfl) ?_ _
  have h6 : (((w.alloc (.cells t.k.toArray 59)).drew.alloc (.cells Z40 83)).setRow (w.alloc (.cells t.k.toArray 59)).drew.heap.size t.cells.toArray).heap[(w.alloc (.cells t.k.toArray 59)).drew.heap.size]? = some (.cells t.cells.toArray 83 (0, 0)) := setRow_heap _ _ _ _ _ _ (heap_last _ _)
  have hb10 := Lib.hid (show (w.alloc (.cells t.k.toArray 59)).drew.heap.size = w.heap.size + 1 by show (w.alloc (.cells t.k.toArray 59)).heap.size = _; simp)
  have hz10 : (w.alloc (.cells t.k.toArray 59)).drew.heap.size < (((w.alloc (.cells t.k.toArray 59)).drew.alloc (.cells Z40 83)).setRow (w.alloc (.cells t.k.toArray 59)).drew.heap.size t.cells.toArray).heap.size := by simp
  obtain ⟨s1, s2, s3⟩ := hS
  generalize ((w.alloc (.cells t.k.toArray 59)).drew.alloc (.cells Z40 83)).setRow (w.alloc (.cells t.k.toArray 59)).drew.heap.size t.cells.toArray = W3 at *
  generalize (w.alloc (.cells t.k.toArray 59)).drew.heap.size = b10 at *
  have c16 : W3.cell? ⟨b10, 16, none⟩ = some (.int .u8 t.s) := by
    rw [cell_of_row W3 b10 16 _ _ _ h6, List.getElem?_toArray, Tr.cells, List.getElem?_append_right (by rw [hto.k.1]; omega), hto.k.1]; rfl
  go_wp2_with fail
  refine (follows_ok t.s n _).mono ?_
  rintro e w' ⟨rfl, x, rfl⟩
  rw [hf]
  have s1' : Below w.heap.size w x.i := s1.trans (x.h.mono s1.size)
  have s2' := (x.h.block _ s3).trans s2
  have s3' := (x.h.block _ hz10).trans h6
  have z10' : b10 < x.i.heap.size := Nat.lt_of_lt_of_le hz10 x.h.size
  generalize x.i = W4 at *
  clear s1 s2 s3 h6 hz10 c16
  have hrl : (Tr.cells ⟨t.k, n, t.ts.set n tick⟩).length = 23 := by rw [Tr.cells]; simp [hto.k.1, hto.n]
  have e2 : (t.k ++ Value.int .u8 n :: t.ts.map (Value.int .i64)).toArray.size = 23 := by simp [hto.k.1, hto.n]
  have r5 : (W4.setRow b10 (t.k ++ Value.int .u8 n :: t.ts.map (Value.int .i64)).toArray).heap[b10]? = some (.cells (t.k ++ Value.int .u8 n :: t.ts.map (Value.int .i64)).toArray 83 (0, 0)) := setRow_heap _ _ _ _ _ _ s3'
  have l16 : 16 < t.cells.toArray.size := by rw [hts]; omega
  have l17 : 17 + n < (t.k ++ Value.int .u8 n :: t.ts.map (Value.int .i64)).toArray.size := by rw [e2]; omega
  have E1 := Lib.hid (cells_s hto n)
  have E2 := Lib.hid (cells_t hto n n tick)
  have R5 := Lib.hid r5
  have LL := Lib.hid l17
  clear r5 l17 e2
  go_wp2_with (first
    | (refine wpList_store1 rfl 60 _ _ (by rfl) b10 16 (by rfl) (.int .u8 n) (by rfl) s3' l16 size26 rfl rfl ?_; rw [E1.out])
    | (refine wpList_store1 rfl 3 _ _ (by rfl) b10 (17 + n) (by rfl) (.int .i64 tick) (by rfl) R5.out LL.out size3 rfl rfl ?_; rw [E2.out]))
  have B10 := Lib.hid (show w.heap.size ≤ b10 by have := hb10.out; omega)
  have s1 : Lies F w ((W4.setRow b10 (t.k ++ Value.int .u8 n :: t.ts.map (Value.int .i64)).toArray).setRow b10 (Tr.cells ⟨t.k, n, t.ts.set n tick⟩).toArray) := ((Lies.of_below s1').setRow (.inr B10.out) _).setRow (.inr B10.out) _
  have o5 : ∀ j, j < w.heap.size → ((W4.setRow b10 (t.k ++ Value.int .u8 n :: t.ts.map (Value.int .i64)).toArray).setRow b10 (Tr.cells ⟨t.k, n, t.ts.set n tick⟩).toArray).heap[j]? = w.heap[j]? := fun j hj => by
    have := B10.out
    rw [setRow_other _ _ _ _ (by omega), setRow_other _ _ _ _ (by omega)]; exact s1'.block j hj
  have s2 : ((W4.setRow b10 (t.k ++ Value.int .u8 n :: t.ts.map (Value.int .i64)).toArray).setRow b10 (Tr.cells ⟨t.k, n, t.ts.set n tick⟩).toArray).heap[w.heap.size]? = some (.cells t.k.toArray 59 (0, 0)) := by
    have := hb10.out
    rw [setRow_other _ _ _ _ (by omega), setRow_other _ _ _ _ (by omega)]; exact s2'
  have s3 : ((W4.setRow b10 (t.k ++ Value.int .u8 n :: t.ts.map (Value.int .i64)).toArray).setRow b10 (Tr.cells ⟨t.k, n, t.ts.set n tick⟩).toArray).heap[b10]? = some (.cells (Tr.cells ⟨t.k, n, t.ts.set n tick⟩).toArray 83 (0, 0)) := setRow_heap _ _ _ _ _ _ R5.out
  have s4 := (o5 tb ltb).trans h.hd
  generalize (W4.setRow b10 (t.k ++ Value.int .u8 n :: t.ts.map (Value.int .i64)).toArray).setRow b10 (Tr.cells ⟨t.k, n, t.ts.set n tick⟩).toArray = W5 at *
  have B6 := Lib.hid (Nat.le_refl w.heap.size)
  obtain ⟨b6, hb6⟩ : ∃ b6, b6 = w.heap.size := ⟨_, rfl⟩
  rw [← hb6] at s2
  have B6 := Lib.hid (show w.heap.size ≤ b6 by omega)
  simp only [← hb6]
  clear R5 LL E1 E2 s2' s3' z10' s1' l16 hb6
  have z6 := (Array.getElem?_eq_some_iff.1 s2).1
  have z10 := (Array.getElem?_eq_some_iff.1 s3).1
  have ztb := (Array.getElem?_eq_some_iff.1 s4).1
  obtain ⟨kl, hkl0⟩ := key_j hk
  have hkl := Lib.hid hkl0
  clear hkl0
  refine wp_region_held_drew (S := (fun u => Lies F w u ∧ u.heap[b6]? = some (.cells t.k.toArray 59 (0, 0)) ∧ u.heap[b10]? = some (.cells (Tr.cells ⟨t.k, n, t.ts.set n tick⟩).toArray 83 (0, 0)) ∧ u.heap[tb]? = some (.cells #[.int .i64 q.clock, ov, .map (some b1), .map (some b2), .map (some b3)] 75 (0, 0)))) (by kernel_rfl) (⟨s1.drew, s2, s3, s4⟩) ?_
  intro hS
  refine wpAnyH_take (i := 0) (oi := { dst := some 49, op := Op.move (Operand.tmp 0), type := 24, pos := "trip.go:90", after := #[], guard := none }) (v := .pointer (some ⟨tb, 0, none⟩)) rfl (by kernel_rfl) (by kernel_rfl) (by kernel_rfl) (fun _ _ _ h => h) (Or.inl ⟨by rfl, ?_⟩) (by assumption) ?_
  · intro z hz
    go_simp
  try simp only [Act.put, List.setIfInBounds_toArray, List.set_cons_zero, List.set_cons_succ]
  refine wpAnyH_take (i := 1) (oi := { dst := some 50, op := Op.nilCheck (Operand.tmp 49), type := 0, pos := "trip.go:90", after := #[{ on := 0, ground := Ground.data }], guard := none }) (v := .pointer (some ⟨tb, 0, none⟩)) rfl (by kernel_rfl) (by kernel_rfl) (by kernel_rfl) (fun _ _ _ h => h) (Or.inl ⟨by rfl, ?_⟩) (by assumption) ?_
  · intro z hz
    go_simp
  try simp only [Act.put, List.setIfInBounds_toArray, List.set_cons_zero, List.set_cons_succ]
  refine wpAnyH_take (i := 2) (oi := { dst := some 51, op := Op.fieldAddr 75 (Operand.tmp 50) 2, type := 0, pos := "trip.go:90", after := #[{ on := 1, ground := Ground.data }], guard := none }) (v := .pointer (some ⟨tb, 2, none⟩)) rfl (by kernel_rfl) (by kernel_rfl) (by kernel_rfl) (fun _ _ _ h => h) (Or.inl ⟨by rfl, ?_⟩) (by assumption) ?_
  · intro z hz
    go_simp
  try simp only [Act.put, List.setIfInBounds_toArray, List.set_cons_zero, List.set_cons_succ]
  refine wpAnyH_take (i := 3) (oi := { dst := some 52, op := Op.load 71 (Operand.tmp 51), type := 71, pos := "trip.go:90", after := #[{ on := 2, ground := Ground.data }], guard := none }) (v := .map (some b1)) rfl (by kernel_rfl) (by kernel_rfl) (by kernel_rfl) (fun _ _ _ h => h) (Or.inl ⟨by rfl, ?_⟩) (by assumption) ?_
  · intro z hz
    have c := cell_of_row z tb 2 _ _ _ hz.2.2.2
    replace c : z.cell? ⟨tb, 2, none⟩ = some (.map (some b1)) := c
    go_simp
  try simp only [Act.put, List.setIfInBounds_toArray, List.set_cons_zero, List.set_cons_succ]
  refine wpAnyH_take (i := 4) (oi := { dst := some 53, op := Op.load 59 (Operand.tmp 6), type := 59, pos := "trip.go:90", after := #[], guard := none }) (v := .agg t.k.toArray) rfl (by kernel_rfl) (by kernel_rfl) (by kernel_rfl) (fun _ _ _ h => h) (yields_loadrow (by rfl) 59 _ (by rfl) b6 (by rfl) t.k.toArray 59 _ (fun u hu => hu.2.1) Tryz.underlying59 rfl (by rw [List.size_toArray, hk.1]; exact size25)) (by assumption) ?_
  try simp only [Act.put, List.setIfInBounds_toArray, List.set_cons_zero, List.set_cons_succ]
  refine wpAnyH_take (i := 5) (oi := { dst := some 54, op := Op.load 83 (Operand.tmp 10), type := 83, pos := "trip.go:90", after := #[], guard := none }) (v := .agg (Tr.cells ⟨t.k, n, t.ts.set n tick⟩).toArray) rfl (by kernel_rfl) (by kernel_rfl) (by kernel_rfl) (fun _ _ _ h => h) (yields_loadrow (by rfl) 83 _ (by rfl) b10 (by rfl) (Tr.cells ⟨t.k, n, t.ts.set n tick⟩).toArray 83 _ (fun u hu => hu.2.2.1) Tryz.underlying83 rfl (by simp only [List.size_toArray]; rw [hrl]; exact size40)) (by assumption) ?_
  try simp only [Act.put, List.setIfInBounds_toArray, List.set_cons_zero, List.set_cons_succ]
  obtain ⟨w6, hr6, hm6, hg6⟩ := ((h1.of_block (o5 b1 lb1)).of_block (w' := W5.drew) rfl).update law25 Tryz.underlying71 (key := .agg t.k.toArray) (val := .agg (Tr.cells ⟨t.k, n, t.ts.set n tick⟩).toArray) hkl.out
  refine wpAnyH_ready (rs := [6]) (by kernel_rfl) (by simp) ?_
  refine AllReadyH.cons (o := { dst := none, op := Op.mapUpdate 71 (Operand.tmp 52) (Operand.tmp 53) (Operand.tmp 54), type := 0, pos := "trip.go:90", after := #[{ on := 3, ground := Ground.data }, { on := 4, ground := Ground.data }, { on := 5, ground := Ground.data }, { on := 0, ground := Ground.phase }, { on := 1, ground := Ground.phase }, { on := 2, ground := Ground.phase }, { on := 3, ground := Ground.phase }, { on := 4, ground := Ground.phase }, { on := 5, ground := Ground.phase }], guard := none }) rfl (fun K hK => ?_) AllReadyH.nil
  rw [if_pos (by rfl)]
  refine wp_mapUpdate 71 _ _ _ (by rfl) (.map (some b1)) (.agg t.k.toArray) (.agg (Tr.cells ⟨t.k, n, t.ts.set n tick⟩).toArray) (by rfl) (by rfl) (by rfl) w6 hr6 ?_
  refine hK.out _ _ (⟨hS.1.grown hg6 (fun q hq => by cases hq; exact .inl h.fb1), (hg6.block b6 z6 (fun e => by injection e with e; have := B6.out; have := lb1; omega)).trans hS.2.1, (hg6.block b10 z10 (fun e => by injection e with e; have := B10.out; have := lb1; omega)).trans hS.2.2.1, (hg6.block tb ztb (fun e => by injection e with e; exact h.ne.1 e)).trans hS.2.2.2⟩) ?_
  clear hK K
  intro hS
  try simp only [Act.put, List.setIfInBounds_toArray, List.set_cons_zero, List.set_cons_succ]
  refine wpAnyH_done (by kernel_rfl) ?_ _
  have lb2 := h.m2.lt
  have lb3 := h.m3.lt
  have o6 : ∀ j, j < w.heap.size → j ≠ b1 → w6.heap[j]? = w.heap[j]? := fun j hj hne => (hg6.block j (Nat.lt_of_lt_of_le hj s1.size) (fun e => hne (by injection e))).trans (o5 j hj)
  obtain ⟨s1, s2, s3, s4⟩ := hS
  have m1 := hm6
  by_cases hs : n = 4 ∨ n = 5
  · have HSS := Lib.hid hs
    by_cases h4 : n = 4
    · have e4 : ((n : Int) == 4) = true := by rw [h4]; rfl
      clear hs h4
      go_wp2_with fail
      have hkt8 : Bs 8 (t.k.take 8) := Bs.take (m := 8) hk
      have hkd : Bs 8 (t.k.drop 8) := Bs.drop (n := 8) hk
      obtain ⟨klt, hklt⟩ := key_id hkt8
      obtain ⟨kld, hkld⟩ := key_id hkd
      have z6 := (Array.getElem?_eq_some_iff.1 s2).1
      have z10 := (Array.getElem?_eq_some_iff.1 s3).1
      have ztb := (Array.getElem?_eq_some_iff.1 s4).1
      have m26 := h.m2.of_block (o6 b2 lb2 h.n12.symm)
      refine wp_region_held_drew (S := (fun u => Lies F w u ∧ u.heap[b6]? = some (.cells t.k.toArray 59 (0, 0)) ∧ u.heap[b10]? = some (.cells (Tr.cells ⟨t.k, n, t.ts.set n tick⟩).toArray 83 (0, 0)) ∧ u.heap[tb]? = some (.cells #[.int .i64 q.clock, ov, .map (some b1), .map (some b2), .map (some b3)] 75 (0, 0)))) (by kernel_rfl) (⟨s1.drew, s2, s3, s4⟩) ?_
      intro hS
      refine wpAnyH_take (i := 0) (oi := { dst := some 61, op := Op.move (Operand.tmp 0), type := 24, pos := "trip.go:92", after := #[], guard := none }) (v := .pointer (some ⟨tb, 0, none⟩)) rfl (by kernel_rfl) (by kernel_rfl) (by kernel_rfl) (fun _ _ _ h => h) (Or.inl ⟨by rfl, ?_⟩) (by assumption) ?_
      · intro z hz
        go_simp
      try simp only [Act.put, List.setIfInBounds_toArray, List.set_cons_zero, List.set_cons_succ]
      refine wpAnyH_take (i := 1) (oi := { dst := some 62, op := Op.nilCheck (Operand.tmp 61), type := 0, pos := "trip.go:92", after := #[{ on := 0, ground := Ground.data }], guard := none }) (v := .pointer (some ⟨tb, 0, none⟩)) rfl (by kernel_rfl) (by kernel_rfl) (by kernel_rfl) (fun _ _ _ h => h) (Or.inl ⟨by rfl, ?_⟩) (by assumption) ?_
      · intro z hz
        go_simp
      try simp only [Act.put, List.setIfInBounds_toArray, List.set_cons_zero, List.set_cons_succ]
      refine wpAnyH_take (i := 2) (oi := { dst := some 63, op := Op.fieldAddr 75 (Operand.tmp 62) 3, type := 0, pos := "trip.go:92", after := #[{ on := 1, ground := Ground.data }], guard := none }) (v := .pointer (some ⟨tb, 3, none⟩)) rfl (by kernel_rfl) (by kernel_rfl) (by kernel_rfl) (fun _ _ _ h => h) (Or.inl ⟨by rfl, ?_⟩) (by assumption) ?_
      · intro z hz
        go_simp
      try simp only [Act.put, List.setIfInBounds_toArray, List.set_cons_zero, List.set_cons_succ]
      refine wpAnyH_take (i := 3) (oi := { dst := some 64, op := Op.load 72 (Operand.tmp 63), type := 72, pos := "trip.go:92", after := #[{ on := 2, ground := Ground.data }], guard := none }) (v := .map (some b2)) rfl (by kernel_rfl) (by kernel_rfl) (by kernel_rfl) (fun _ _ _ h => h) (Or.inl ⟨by rfl, ?_⟩) (by assumption) ?_
      · intro z hz
        have c := cell_of_row z tb 3 _ _ _ hz.2.2.2
        replace c : z.cell? ⟨tb, 3, none⟩ = some (.map (some b2)) := c
        go_simp
      try simp only [Act.put, List.setIfInBounds_toArray, List.set_cons_zero, List.set_cons_succ]
      refine wpAnyH_take (i := 4) (oi := { dst := some 65, op := Op.fieldAddr 59 (Operand.tmp 6) 0, type := 0, pos := "trip.go:92", after := #[], guard := none }) (v := .pointer (some ⟨b6, 0, none⟩)) rfl (by kernel_rfl) (by kernel_rfl) (by kernel_rfl) (fun _ _ _ h => h) (Or.inl ⟨by rfl, ?_⟩) (by assumption) ?_
      · intro z hz
        go_simp
      try simp only [Act.put, List.setIfInBounds_toArray, List.set_cons_zero, List.set_cons_succ]
      refine wpAnyH_take (i := 5) (oi := { dst := some 66, op := Op.load 57 (Operand.tmp 65), type := 57, pos := "trip.go:92", after := #[{ on := 4, ground := Ground.data }], guard := none }) (v := .agg (t.k.take 8).toArray) rfl (by kernel_rfl) (by kernel_rfl) (by kernel_rfl) (fun _ _ _ h => h) (yieldsIf_load_mid (by rfl) 57 _ (by rfl) b6 0 (by rfl) (t.k.take 8) _ (fun u hu => range_sub hu.2.1 0 (a := []) (cs := t.k.take 8) (z := t.k.drop 8) (by rw [List.nil_append, List.take_append_drop]) rfl) Tryz.underlying57 rfl (by rw [hkt8.1]; exact size23)) (by assumption) ?_
      try simp only [Act.put, List.setIfInBounds_toArray, List.set_cons_zero, List.set_cons_succ]
      obtain ⟨w7, hrw7, hmw7, hgw7⟩ := (m26.of_block (w' := w6.drew) rfl).delete law23 Tryz.underlying72 (key := .agg (t.k.take 8).toArray) hklt #[72, 57] 0 rfl
      refine wpAnyH_ready (rs := [6]) (by kernel_rfl) (by simp) ?_
      refine AllReadyH.cons (o := { dst := none, op := Op.call { callee := Callee.builtin Builtin.delete, args := #[Operand.tmp 64, Operand.tmp 66], argTypes := #[72, 57] }, type := 0, pos := "trip.go:92", after := #[{ on := 3, ground := Ground.data }, { on := 5, ground := Ground.data }], guard := none }) rfl (fun K hK => ?_) AllReadyH.nil
      rw [if_pos (by rfl)]
      refine wp_delete 72 57 _ _ (by rfl) (.map (some b2)) (.agg (t.k.take 8).toArray) (by rfl) (by rfl) w7 hrw7 ?_
      refine hK.out _ _ (⟨hS.1.grown hgw7 (fun q hq => by cases hq; exact .inl h.fb2), (hgw7.block b6 z6 (fun e => by injection e with e; have := B6.out; have := h.m2.lt; omega)).trans hS.2.1, (hgw7.block b10 z10 (fun e => by injection e with e; have := B10.out; have := h.m2.lt; omega)).trans hS.2.2.1, (hgw7.block tb ztb (fun e => by injection e with e; exact h.ne.2.1 e)).trans hS.2.2.2⟩) ?_
      clear hK K
      intro hS
      try simp only [Act.put, List.setIfInBounds_toArray, List.set_cons_zero, List.set_cons_succ]
      refine wpAnyH_done (by kernel_rfl) ?_ _
      have o7 : ∀ j, j < w.heap.size → j ≠ b1 → j ≠ b2 → w7.heap[j]? = w.heap[j]? := fun j hj hne hne2 => (hgw7.block j (Nat.lt_of_lt_of_le hj s1.size) (fun e => hne2 (by injection e))).trans (o6 j hj hne)
      have m17 := m1.of_block (hgw7.block b1 (Nat.lt_of_lt_of_le lb1 s1.size) (fun e => h.n12 (by injection e)))
      clear m1
      obtain ⟨s1, s2, s3, s4⟩ := hS
      have z6 := (Array.getElem?_eq_some_iff.1 s2).1
      have z10 := (Array.getElem?_eq_some_iff.1 s3).1
      have ztb := (Array.getElem?_eq_some_iff.1 s4).1
      have m37 := h.m3.of_block (o7 b3 lb3 h.n13.symm h.n23.symm)
      go_wp2_with fail
      refine wp_region_held_drew (S := (fun u => Lies F w u ∧ u.heap[b6]? = some (.cells t.k.toArray 59 (0, 0)) ∧ u.heap[b10]? = some (.cells (Tr.cells ⟨t.k, n, t.ts.set n tick⟩).toArray 83 (0, 0)) ∧ u.heap[tb]? = some (.cells #[.int .i64 q.clock, ov, .map (some b1), .map (some b2), .map (some b3)] 75 (0, 0)))) (by kernel_rfl) (⟨s1.drew, s2, s3, s4⟩) ?_
      intro hS
      refine wpAnyH_take (i := 0) (oi := { dst := some 67, op := Op.move (Operand.tmp 0), type := 24, pos := "trip.go:93", after := #[], guard := none }) (v := .pointer (some ⟨tb, 0, none⟩)) rfl (by kernel_rfl) (by kernel_rfl) (by kernel_rfl) (fun _ _ _ h => h) (Or.inl ⟨by rfl, ?_⟩) (by assumption) ?_
      · intro z hz
        go_simp
      try simp only [Act.put, List.setIfInBounds_toArray, List.set_cons_zero, List.set_cons_succ]
      refine wpAnyH_take (i := 1) (oi := { dst := some 68, op := Op.nilCheck (Operand.tmp 67), type := 0, pos := "trip.go:93", after := #[{ on := 0, ground := Ground.data }], guard := none }) (v := .pointer (some ⟨tb, 0, none⟩)) rfl (by kernel_rfl) (by kernel_rfl) (by kernel_rfl) (fun _ _ _ h => h) (Or.inl ⟨by rfl, ?_⟩) (by assumption) ?_
      · intro z hz
        go_simp
      try simp only [Act.put, List.setIfInBounds_toArray, List.set_cons_zero, List.set_cons_succ]
      refine wpAnyH_take (i := 2) (oi := { dst := some 69, op := Op.fieldAddr 75 (Operand.tmp 68) 4, type := 0, pos := "trip.go:93", after := #[{ on := 1, ground := Ground.data }], guard := none }) (v := .pointer (some ⟨tb, 4, none⟩)) rfl (by kernel_rfl) (by kernel_rfl) (by kernel_rfl) (fun _ _ _ h => h) (Or.inl ⟨by rfl, ?_⟩) (by assumption) ?_
      · intro z hz
        go_simp
      try simp only [Act.put, List.setIfInBounds_toArray, List.set_cons_zero, List.set_cons_succ]
      refine wpAnyH_take (i := 3) (oi := { dst := some 70, op := Op.load 72 (Operand.tmp 69), type := 72, pos := "trip.go:93", after := #[{ on := 2, ground := Ground.data }], guard := none }) (v := .map (some b3)) rfl (by kernel_rfl) (by kernel_rfl) (by kernel_rfl) (fun _ _ _ h => h) (Or.inl ⟨by rfl, ?_⟩) (by assumption) ?_
      · intro z hz
        have c := cell_of_row z tb 4 _ _ _ hz.2.2.2
        replace c : z.cell? ⟨tb, 4, none⟩ = some (.map (some b3)) := c
        go_simp
      try simp only [Act.put, List.setIfInBounds_toArray, List.set_cons_zero, List.set_cons_succ]
      refine wpAnyH_take (i := 4) (oi := { dst := some 71, op := Op.fieldAddr 59 (Operand.tmp 6) 1, type := 0, pos := "trip.go:93", after := #[], guard := none }) (v := .pointer (some ⟨b6, 8, none⟩)) rfl (by kernel_rfl) (by kernel_rfl) (by kernel_rfl) (fun _ _ _ h => h) (Or.inl ⟨by rfl, ?_⟩) (by assumption) ?_
      · intro z hz
        go_simp
      try simp only [Act.put, List.setIfInBounds_toArray, List.set_cons_zero, List.set_cons_succ]
      refine wpAnyH_take (i := 5) (oi := { dst := some 72, op := Op.load 57 (Operand.tmp 71), type := 57, pos := "trip.go:93", after := #[{ on := 4, ground := Ground.data }], guard := none }) (v := .agg (t.k.drop 8).toArray) rfl (by kernel_rfl) (by kernel_rfl) (by kernel_rfl) (fun _ _ _ h => h) (yieldsIf_load_mid (by rfl) 57 _ (by rfl) b6 8 (by rfl) (t.k.drop 8) _ (fun u hu => range_sub hu.2.1 8 (a := t.k.take 8) (cs := t.k.drop 8) (z := []) (by rw [List.append_nil, List.take_append_drop]) (by rw [List.length_take, hk.1]; rfl)) Tryz.underlying57 rfl (by rw [hkd.1]; exact size23)) (by assumption) ?_
      try simp only [Act.put, List.setIfInBounds_toArray, List.set_cons_zero, List.set_cons_succ]
      obtain ⟨w8, hrw8, hmw8, hgw8⟩ := (m37.of_block (w' := w7.drew) rfl).delete law23 Tryz.underlying72 (key := .agg (t.k.drop 8).toArray) hkld #[72, 57] 0 rfl
      refine wpAnyH_ready (rs := [6]) (by kernel_rfl) (by simp) ?_
      refine AllReadyH.cons (o := { dst := none, op := Op.call { callee := Callee.builtin Builtin.delete, args := #[Operand.tmp 70, Operand.tmp 72], argTypes := #[72, 57] }, type := 0, pos := "trip.go:93", after := #[{ on := 3, ground := Ground.data }, { on := 5, ground := Ground.data }], guard := none }) rfl (fun K hK => ?_) AllReadyH.nil
      rw [if_pos (by rfl)]
      refine wp_delete 72 57 _ _ (by rfl) (.map (some b3)) (.agg (t.k.drop 8).toArray) (by rfl) (by rfl) w8 hrw8 ?_
      refine hK.out _ _ (⟨hS.1.grown hgw8 (fun q hq => by cases hq; exact .inl h.fb3), (hgw8.block b6 z6 (fun e => by injection e with e; have := B6.out; have := h.m3.lt; omega)).trans hS.2.1, (hgw8.block b10 z10 (fun e => by injection e with e; have := B10.out; have := h.m3.lt; omega)).trans hS.2.2.1, (hgw8.block tb ztb (fun e => by injection e with e; exact h.ne.2.2.1 e)).trans hS.2.2.2⟩) ?_
      clear hK K
      intro hS
      try simp only [Act.put, List.setIfInBounds_toArray, List.set_cons_zero, List.set_cons_succ]
      refine wpAnyH_done (by kernel_rfl) ?_ _
      have OO : ∀ j, j < w.heap.size → j ≠ b1 → j ≠ b2 → j ≠ b3 → w8.heap[j]? = w.heap[j]? := fun j hj hne hne2 hne3 => (hgw8.block j (Nat.lt_of_lt_of_le hj s1.size) (fun e => hne3 (by injection e))).trans (o7 j hj hne hne2)
      have m1 := m17.of_block (hgw8.block b1 (Nat.lt_of_lt_of_le lb1 s1.size) (fun e => h.n13 (by injection e)))
      have m2 := hmw7.of_block (hgw8.block b2 (Nat.lt_of_lt_of_le lb2 s1.size) (fun e => h.n23 (by injection e)))
      have m3 := hmw8
      obtain ⟨s1, s2, s3, s4⟩ := hS
      go_wp2_with (refine wpList_store1 rfl 3 _ _ (by rfl) tb 0 (by rfl) (.int .i64 tick) (by rfl) s4 (by simp) size3 rfl rfl ?_)
      go_ret
      refine ⟨rfl, s1.setRow (.inl h.ft) _, ?_⟩
      exact {
        hd := setRow_heap _ _ _ _ _ _ s4
        m1 := (MapF.of_block m1 (setRow_other _ _ _ _ h.ne.1.symm)).congr (by have F1 := f1_turn (s := (n : Int)) (tick := tick) hq ht (rfl : t.k = t.k); rw [turn_at (rfl : t.k = t.k)] at F1; exact F1)
        m2 := (MapF.of_block m2 (setRow_other _ _ _ _ h.ne.2.1.symm)).congr (f2_free hq ht rfl hon (by have := HSS.out; omega))
        m3 := (MapF.of_block m3 (setRow_other _ _ _ _ h.ne.2.2.1.symm)).congr (f3_free hq ht rfl hon (by have := HSS.out; omega))
        ord := by
          show World.ownsRow _ 0 59 16 ov (q.l.map (turn t.k n tick)).length (((q.l.map (turn t.k n tick)).map Tr.k).flatMap id)
          rw [map_turn_k, List.length_map]
          exact ⟨h.ord.1, by
            rcases h.ord.2 with e | ⟨g, cap, cur, h1', h2', h3', h4'⟩
            · exact .inl e
            · have lg : g < w.heap.size := (Array.getElem?_eq_some_iff.1 h3').1
              have ng : ∀ c, ov.ownBlock ≠ some c → c ≠ g := fun c hc e => hc (by rw [h1', e]; rfl)
              exact .inr ⟨g, cap, cur, h1', h2', ((setRow_other _ _ _ _ (ng _ h.ne.2.2.2.1).symm).trans (OO g lg (ng _ h.ne.2.2.2.2.1).symm (ng _ h.ne.2.2.2.2.2.1).symm (ng _ h.ne.2.2.2.2.2.2).symm)).trans h3', h4'⟩⟩
        n12 := h.n12
        n13 := h.n13
        n23 := h.n23
        ft := h.ft
        fb1 := h.fb1
        fb2 := h.fb2
        fb3 := h.fb3
        fo := h.fo }
    · have e4 : ((n : Int) == 4) = false := by simp only [beq_eq_false_iff_ne]; omega
      have e5 : ((n : Int) == 5) = true := by have := HSS.out; rw [show n = 5 by omega]; rfl
      clear hs h4
      go_wp2_with fail
      have hkt8 : Bs 8 (t.k.take 8) := Bs.take (m := 8) hk
      have hkd : Bs 8 (t.k.drop 8) := Bs.drop (n := 8) hk
      obtain ⟨klt, hklt⟩ := key_id hkt8
      obtain ⟨kld, hkld⟩ := key_id hkd
      have z6 := (Array.getElem?_eq_some_iff.1 s2).1
      have z10 := (Array.getElem?_eq_some_iff.1 s3).1
      have ztb := (Array.getElem?_eq_some_iff.1 s4).1
      have m26 := h.m2.of_block (o6 b2 lb2 h.n12.symm)
      refine wp_region_held_drew (S := (fun u => Lies F w u ∧ u.heap[b6]? = some (.cells t.k.toArray 59 (0, 0)) ∧ u.heap[b10]? = some (.cells (Tr.cells ⟨t.k, n, t.ts.set n tick⟩).toArray 83 (0, 0)) ∧ u.heap[tb]? = some (.cells #[.int .i64 q.clock, ov, .map (some b1), .map (some b2), .map (some b3)] 75 (0, 0)))) (by kernel_rfl) (⟨s1.drew, s2, s3, s4⟩) ?_
      intro hS
      refine wpAnyH_take (i := 0) (oi := { dst := some 61, op := Op.move (Operand.tmp 0), type := 24, pos := "trip.go:92", after := #[], guard := none }) (v := .pointer (some ⟨tb, 0, none⟩)) rfl (by kernel_rfl) (by kernel_rfl) (by kernel_rfl) (fun _ _ _ h => h) (Or.inl ⟨by rfl, ?_⟩) (by assumption) ?_
      · intro z hz
        go_simp
      try simp only [Act.put, List.setIfInBounds_toArray, List.set_cons_zero, List.set_cons_succ]
      refine wpAnyH_take (i := 1) (oi := { dst := some 62, op := Op.nilCheck (Operand.tmp 61), type := 0, pos := "trip.go:92", after := #[{ on := 0, ground := Ground.data }], guard := none }) (v := .pointer (some ⟨tb, 0, none⟩)) rfl (by kernel_rfl) (by kernel_rfl) (by kernel_rfl) (fun _ _ _ h => h) (Or.inl ⟨by rfl, ?_⟩) (by assumption) ?_
      · intro z hz
        go_simp
      try simp only [Act.put, List.setIfInBounds_toArray, List.set_cons_zero, List.set_cons_succ]
      refine wpAnyH_take (i := 2) (oi := { dst := some 63, op := Op.fieldAddr 75 (Operand.tmp 62) 3, type := 0, pos := "trip.go:92", after := #[{ on := 1, ground := Ground.data }], guard := none }) (v := .pointer (some ⟨tb, 3, none⟩)) rfl (by kernel_rfl) (by kernel_rfl) (by kernel_rfl) (fun _ _ _ h => h) (Or.inl ⟨by rfl, ?_⟩) (by assumption) ?_
      · intro z hz
        go_simp
      try simp only [Act.put, List.setIfInBounds_toArray, List.set_cons_zero, List.set_cons_succ]
      refine wpAnyH_take (i := 3) (oi := { dst := some 64, op := Op.load 72 (Operand.tmp 63), type := 72, pos := "trip.go:92", after := #[{ on := 2, ground := Ground.data }], guard := none }) (v := .map (some b2)) rfl (by kernel_rfl) (by kernel_rfl) (by kernel_rfl) (fun _ _ _ h => h) (Or.inl ⟨by rfl, ?_⟩) (by assumption) ?_
      · intro z hz
        have c := cell_of_row z tb 3 _ _ _ hz.2.2.2
        replace c : z.cell? ⟨tb, 3, none⟩ = some (.map (some b2)) := c
        go_simp
      try simp only [Act.put, List.setIfInBounds_toArray, List.set_cons_zero, List.set_cons_succ]
      refine wpAnyH_take (i := 4) (oi := { dst := some 65, op := Op.fieldAddr 59 (Operand.tmp 6) 0, type := 0, pos := "trip.go:92", after := #[], guard := none }) (v := .pointer (some ⟨b6, 0, none⟩)) rfl (by kernel_rfl) (by kernel_rfl) (by kernel_rfl) (fun _ _ _ h => h) (Or.inl ⟨by rfl, ?_⟩) (by assumption) ?_
      · intro z hz
        go_simp
      try simp only [Act.put, List.setIfInBounds_toArray, List.set_cons_zero, List.set_cons_succ]
      refine wpAnyH_take (i := 5) (oi := { dst := some 66, op := Op.load 57 (Operand.tmp 65), type := 57, pos := "trip.go:92", after := #[{ on := 4, ground := Ground.data }], guard := none }) (v := .agg (t.k.take 8).toArray) rfl (by kernel_rfl) (by kernel_rfl) (by kernel_rfl) (fun _ _ _ h => h) (yieldsIf_load_mid (by rfl) 57 _ (by rfl) b6 0 (by rfl) (t.k.take 8) _ (fun u hu => range_sub hu.2.1 0 (a := []) (cs := t.k.take 8) (z := t.k.drop 8) (by rw [List.nil_append, List.take_append_drop]) rfl) Tryz.underlying57 rfl (by rw [hkt8.1]; exact size23)) (by assumption) ?_
      try simp only [Act.put, List.setIfInBounds_toArray, List.set_cons_zero, List.set_cons_succ]
      obtain ⟨w7, hrw7, hmw7, hgw7⟩ := (m26.of_block (w' := w6.drew) rfl).delete law23 Tryz.underlying72 (key := .agg (t.k.take 8).toArray) hklt #[72, 57] 0 rfl
      refine wpAnyH_ready (rs := [6]) (by kernel_rfl) (by simp) ?_
      refine AllReadyH.cons (o := { dst := none, op := Op.call { callee := Callee.builtin Builtin.delete, args := #[Operand.tmp 64, Operand.tmp 66], argTypes := #[72, 57] }, type := 0, pos := "trip.go:92", after := #[{ on := 3, ground := Ground.data }, { on := 5, ground := Ground.data }], guard := none }) rfl (fun K hK => ?_) AllReadyH.nil
      rw [if_pos (by rfl)]
      refine wp_delete 72 57 _ _ (by rfl) (.map (some b2)) (.agg (t.k.take 8).toArray) (by rfl) (by rfl) w7 hrw7 ?_
      refine hK.out _ _ (⟨hS.1.grown hgw7 (fun q hq => by cases hq; exact .inl h.fb2), (hgw7.block b6 z6 (fun e => by injection e with e; have := B6.out; have := h.m2.lt; omega)).trans hS.2.1, (hgw7.block b10 z10 (fun e => by injection e with e; have := B10.out; have := h.m2.lt; omega)).trans hS.2.2.1, (hgw7.block tb ztb (fun e => by injection e with e; exact h.ne.2.1 e)).trans hS.2.2.2⟩) ?_
      clear hK K
      intro hS
      try simp only [Act.put, List.setIfInBounds_toArray, List.set_cons_zero, List.set_cons_succ]
      refine wpAnyH_done (by kernel_rfl) ?_ _
      have o7 : ∀ j, j < w.heap.size → j ≠ b1 → j ≠ b2 → w7.heap[j]? = w.heap[j]? := fun j hj hne hne2 => (hgw7.block j (Nat.lt_of_lt_of_le hj s1.size) (fun e => hne2 (by injection e))).trans (o6 j hj hne)
      have m17 := m1.of_block (hgw7.block b1 (Nat.lt_of_lt_of_le lb1 s1.size) (fun e => h.n12 (by injection e)))
      clear m1
      obtain ⟨s1, s2, s3, s4⟩ := hS
      have z6 := (Array.getElem?_eq_some_iff.1 s2).1
      have z10 := (Array.getElem?_eq_some_iff.1 s3).1
      have ztb := (Array.getElem?_eq_some_iff.1 s4).1
      have m37 := h.m3.of_block (o7 b3 lb3 h.n13.symm h.n23.symm)
      go_wp2_with fail
      refine wp_region_held_drew (S := (fun u => Lies F w u ∧ u.heap[b6]? = some (.cells t.k.toArray 59 (0, 0)) ∧ u.heap[b10]? = some (.cells (Tr.cells ⟨t.k, n, t.ts.set n tick⟩).toArray 83 (0, 0)) ∧ u.heap[tb]? = some (.cells #[.int .i64 q.clock, ov, .map (some b1), .map (some b2), .map (some b3)] 75 (0, 0)))) (by kernel_rfl) (⟨s1.drew, s2, s3, s4⟩) ?_
      intro hS
      refine wpAnyH_take (i := 0) (oi := { dst := some 67, op := Op.move (Operand.tmp 0), type := 24, pos := "trip.go:93", after := #[], guard := none }) (v := .pointer (some ⟨tb, 0, none⟩)) rfl (by kernel_rfl) (by kernel_rfl) (by kernel_rfl) (fun _ _ _ h => h) (Or.inl ⟨by rfl, ?_⟩) (by assumption) ?_
      · intro z hz
        go_simp
      try simp only [Act.put, List.setIfInBounds_toArray, List.set_cons_zero, List.set_cons_succ]
      refine wpAnyH_take (i := 1) (oi := { dst := some 68, op := Op.nilCheck (Operand.tmp 67), type := 0, pos := "trip.go:93", after := #[{ on := 0, ground := Ground.data }], guard := none }) (v := .pointer (some ⟨tb, 0, none⟩)) rfl (by kernel_rfl) (by kernel_rfl) (by kernel_rfl) (fun _ _ _ h => h) (Or.inl ⟨by rfl, ?_⟩) (by assumption) ?_
      · intro z hz
        go_simp
      try simp only [Act.put, List.setIfInBounds_toArray, List.set_cons_zero, List.set_cons_succ]
      refine wpAnyH_take (i := 2) (oi := { dst := some 69, op := Op.fieldAddr 75 (Operand.tmp 68) 4, type := 0, pos := "trip.go:93", after := #[{ on := 1, ground := Ground.data }], guard := none }) (v := .pointer (some ⟨tb, 4, none⟩)) rfl (by kernel_rfl) (by kernel_rfl) (by kernel_rfl) (fun _ _ _ h => h) (Or.inl ⟨by rfl, ?_⟩) (by assumption) ?_
      · intro z hz
        go_simp
      try simp only [Act.put, List.setIfInBounds_toArray, List.set_cons_zero, List.set_cons_succ]
      refine wpAnyH_take (i := 3) (oi := { dst := some 70, op := Op.load 72 (Operand.tmp 69), type := 72, pos := "trip.go:93", after := #[{ on := 2, ground := Ground.data }], guard := none }) (v := .map (some b3)) rfl (by kernel_rfl) (by kernel_rfl) (by kernel_rfl) (fun _ _ _ h => h) (Or.inl ⟨by rfl, ?_⟩) (by assumption) ?_
      · intro z hz
        have c := cell_of_row z tb 4 _ _ _ hz.2.2.2
        replace c : z.cell? ⟨tb, 4, none⟩ = some (.map (some b3)) := c
        go_simp
      try simp only [Act.put, List.setIfInBounds_toArray, List.set_cons_zero, List.set_cons_succ]
      refine wpAnyH_take (i := 4) (oi := { dst := some 71, op := Op.fieldAddr 59 (Operand.tmp 6) 1, type := 0, pos := "trip.go:93", after := #[], guard := none }) (v := .pointer (some ⟨b6, 8, none⟩)) rfl (by kernel_rfl) (by kernel_rfl) (by kernel_rfl) (fun _ _ _ h => h) (Or.inl ⟨by rfl, ?_⟩) (by assumption) ?_
      · intro z hz
        go_simp
      try simp only [Act.put, List.setIfInBounds_toArray, List.set_cons_zero, List.set_cons_succ]
      refine wpAnyH_take (i := 5) (oi := { dst := some 72, op := Op.load 57 (Operand.tmp 71), type := 57, pos := "trip.go:93", after := #[{ on := 4, ground := Ground.data }], guard := none }) (v := .agg (t.k.drop 8).toArray) rfl (by kernel_rfl) (by kernel_rfl) (by kernel_rfl) (fun _ _ _ h => h) (yieldsIf_load_mid (by rfl) 57 _ (by rfl) b6 8 (by rfl) (t.k.drop 8) _ (fun u hu => range_sub hu.2.1 8 (a := t.k.take 8) (cs := t.k.drop 8) (z := []) (by rw [List.append_nil, List.take_append_drop]) (by rw [List.length_take, hk.1]; rfl)) Tryz.underlying57 rfl (by rw [hkd.1]; exact size23)) (by assumption) ?_
      try simp only [Act.put, List.setIfInBounds_toArray, List.set_cons_zero, List.set_cons_succ]
      obtain ⟨w8, hrw8, hmw8, hgw8⟩ := (m37.of_block (w' := w7.drew) rfl).delete law23 Tryz.underlying72 (key := .agg (t.k.drop 8).toArray) hkld #[72, 57] 0 rfl
      refine wpAnyH_ready (rs := [6]) (by kernel_rfl) (by simp) ?_
      refine AllReadyH.cons (o := { dst := none, op := Op.call { callee := Callee.builtin Builtin.delete, args := #[Operand.tmp 70, Operand.tmp 72], argTypes := #[72, 57] }, type := 0, pos := "trip.go:93", after := #[{ on := 3, ground := Ground.data }, { on := 5, ground := Ground.data }], guard := none }) rfl (fun K hK => ?_) AllReadyH.nil
      rw [if_pos (by rfl)]
      refine wp_delete 72 57 _ _ (by rfl) (.map (some b3)) (.agg (t.k.drop 8).toArray) (by rfl) (by rfl) w8 hrw8 ?_
      refine hK.out _ _ (⟨hS.1.grown hgw8 (fun q hq => by cases hq; exact .inl h.fb3), (hgw8.block b6 z6 (fun e => by injection e with e; have := B6.out; have := h.m3.lt; omega)).trans hS.2.1, (hgw8.block b10 z10 (fun e => by injection e with e; have := B10.out; have := h.m3.lt; omega)).trans hS.2.2.1, (hgw8.block tb ztb (fun e => by injection e with e; exact h.ne.2.2.1 e)).trans hS.2.2.2⟩) ?_
      clear hK K
      intro hS
      try simp only [Act.put, List.setIfInBounds_toArray, List.set_cons_zero, List.set_cons_succ]
      refine wpAnyH_done (by kernel_rfl) ?_ _
      have OO : ∀ j, j < w.heap.size → j ≠ b1 → j ≠ b2 → j ≠ b3 → w8.heap[j]? = w.heap[j]? := fun j hj hne hne2 hne3 => (hgw8.block j (Nat.lt_of_lt_of_le hj s1.size) (fun e => hne3 (by injection e))).trans (o7 j hj hne hne2)
      have m1 := m17.of_block (hgw8.block b1 (Nat.lt_of_lt_of_le lb1 s1.size) (fun e => h.n13 (by injection e)))
      have m2 := hmw7.of_block (hgw8.block b2 (Nat.lt_of_lt_of_le lb2 s1.size) (fun e => h.n23 (by injection e)))
      have m3 := hmw8
      obtain ⟨s1, s2, s3, s4⟩ := hS
      go_wp2_with (refine wpList_store1 rfl 3 _ _ (by rfl) tb 0 (by rfl) (.int .i64 tick) (by rfl) s4 (by simp) size3 rfl rfl ?_)
      go_ret
      refine ⟨rfl, s1.setRow (.inl h.ft) _, ?_⟩
      exact {
        hd := setRow_heap _ _ _ _ _ _ s4
        m1 := (MapF.of_block m1 (setRow_other _ _ _ _ h.ne.1.symm)).congr (by have F1 := f1_turn (s := (n : Int)) (tick := tick) hq ht (rfl : t.k = t.k); rw [turn_at (rfl : t.k = t.k)] at F1; exact F1)
        m2 := (MapF.of_block m2 (setRow_other _ _ _ _ h.ne.2.1.symm)).congr (f2_free hq ht rfl hon (by have := HSS.out; omega))
        m3 := (MapF.of_block m3 (setRow_other _ _ _ _ h.ne.2.2.1.symm)).congr (f3_free hq ht rfl hon (by have := HSS.out; omega))
        ord := by
          show World.ownsRow _ 0 59 16 ov (q.l.map (turn t.k n tick)).length (((q.l.map (turn t.k n tick)).map Tr.k).flatMap id)
          rw [map_turn_k, List.length_map]
          exact ⟨h.ord.1, by
            rcases h.ord.2 with e | ⟨g, cap, cur, h1', h2', h3', h4'⟩
            · exact .inl e
            · have lg : g < w.heap.size := (Array.getElem?_eq_some_iff.1 h3').1
              have ng : ∀ c, ov.ownBlock ≠ some c → c ≠ g := fun c hc e => hc (by rw [h1', e]; rfl)
              exact .inr ⟨g, cap, cur, h1', h2', ((setRow_other _ _ _ _ (ng _ h.ne.2.2.2.1).symm).trans (OO g lg (ng _ h.ne.2.2.2.2.1).symm (ng _ h.ne.2.2.2.2.2.1).symm (ng _ h.ne.2.2.2.2.2.2).symm)).trans h3', h4'⟩⟩
        n12 := h.n12
        n13 := h.n13
        n23 := h.n23
        ft := h.ft
        fb1 := h.fb1
        fb2 := h.fb2
        fb3 := h.fb3
        fo := h.fo }
  · have e4 : ((n : Int) == 4) = false := by simp only [beq_eq_false_iff_ne]; omega
    have e5 : ((n : Int) == 5) = false := by simp only [beq_eq_false_iff_ne]; omega
    have HSS := Lib.hid hs
    clear hs
    have OO : ∀ j, j < w.heap.size → j ≠ b1 → j ≠ b2 → j ≠ b3 → w6.heap[j]? = w.heap[j]? := fun j hj hne _ _ => o6 j hj hne
    have m2 := h.m2.of_block (o6 b2 lb2 h.n12.symm)
    have m3 := h.m3.of_block (o6 b3 lb3 h.n13.symm)
    go_wp2_with (refine wpList_store1 rfl 3 _ _ (by rfl) tb 0 (by rfl) (.int .i64 tick) (by rfl) s4 (by simp) size3 rfl rfl ?_)
    go_ret
    refine ⟨rfl, s1.setRow (.inl h.ft) _, ?_⟩
    exact {
      hd := setRow_heap _ _ _ _ _ _ s4
      m1 := (MapF.of_block m1 (setRow_other _ _ _ _ h.ne.1.symm)).congr (by have F1 := f1_turn (s := (n : Int)) (tick := tick) hq ht (rfl : t.k = t.k); rw [turn_at (rfl : t.k = t.k)] at F1; exact F1)
      m2 := (MapF.of_block m2 (setRow_other _ _ _ _ h.ne.2.1.symm)).congr (f2_stay hq ht rfl hon (by have := HSS.out; omega))
      m3 := (MapF.of_block m3 (setRow_other _ _ _ _ h.ne.2.2.1.symm)).congr (f3_stay hq ht rfl hon (by have := HSS.out; omega))
      ord := by
        show World.ownsRow _ 0 59 16 ov (q.l.map (turn t.k n tick)).length (((q.l.map (turn t.k n tick)).map Tr.k).flatMap id)
        rw [map_turn_k, List.length_map]
        exact ⟨h.ord.1, by
          rcases h.ord.2 with e | ⟨g, cap, cur, h1', h2', h3', h4'⟩
          · exact .inl e
          · have lg : g < w.heap.size := (Array.getElem?_eq_some_iff.1 h3').1
            have ng : ∀ c, ov.ownBlock ≠ some c → c ≠ g := fun c hc e => hc (by rw [h1', e]; rfl)
            exact .inr ⟨g, cap, cur, h1', h2', ((setRow_other _ _ _ _ (ng _ h.ne.2.2.2.1).symm).trans (OO g lg (ng _ h.ne.2.2.2.2.1).symm (ng _ h.ne.2.2.2.2.2.1).symm (ng _ h.ne.2.2.2.2.2.2).symm)).trans h3', h4'⟩⟩
      n12 := h.n12
      n13 := h.n13
      n23 := h.n23
      ft := h.ft
      fb1 := h.fb1
      fb2 := h.fb2
      fb3 := h.fb3
      fo := h.fo }

end
end Go.Proofs.YtnooghehmgbemaaGreat
