/- PlaneQuarters: turned, the distance stays; turned back it is the point; turns go on. No conditions. -/
import Derived.Test.YtilimgjmiijkiaaL
import Derived.Test.YtilimgjmiijkiaaA9
import Derived.Test.YtilimgjmiijkiaaA14
import Derived.Test.YtilimgjmiijkiaaA15
import Derived.Test.YtilimgjmiijkiaaRows
namespace Go.Proofs.Ytilimgjmiijkiaa
open Go.ChangeShapes Go.WideShapes Go.ChangeAt Go.RowKit Go.Joins Ieee
attribute [local go_sem] BW.cell BW.frozen
set_option linter.unusedVariables false

set_option maxHeartbeats 4000000 in
theorem quarters_no (px py ax ay m n m4 : Int) (w : World) (hm : m.tmod 4 = m4)
    (k1 : ∀ w, Calls Try.prog 35 #[.agg #[.int .i16 px, .int .i16 py], .agg #[.int .i16 ax, .int .i16 ay], .int .i64 m] w (Gives (.tuple #[.agg #[.int .i16 0, .int .i16 0], .bool false]) w))
    (k2 : ∀ w, Calls Try.prog 35 #[.agg #[.int .i16 px, .int .i16 py], .agg #[.int .i16 ax, .int .i16 ay], .int .i64 m4] w (Gives (.tuple #[.agg #[.int .i16 0, .int .i16 0], .bool false]) w)) :
    Calls Try.prog 14 #[.agg #[.int .i16 px, .int .i16 py], .agg #[.int .i16 ax, .int .i16 ay], .int .i64 m, .int .i64 n] w (Gives (.bool true) w) := by
  have K1 := Lib.hid k1
  have K2 := Lib.hid k2
  clear k1 k2
  go_enter Try.func14, Try.ntmps14
  go_wp2_with fail
  refine (K1.out _).mono ?_
  rintro e w' ⟨rfl, z1, rfl⟩
  have q1_0_0 : z1.i.cell? ⟨w.heap.size, 0, none⟩ = some (.int .i16 px) := by rw [z1.cell (by simp <;> omega)]; simp [go_sem]
  have q1_0_1 : z1.i.cell? ⟨w.heap.size, 1, none⟩ = some (.int .i16 py) := by rw [z1.cell (by simp <;> omega)]; simp [go_sem]
  have q1_1_0 : z1.i.cell? ⟨w.heap.size + 1, 0, none⟩ = some (.int .i16 ax) := by rw [z1.cell (by simp <;> omega)]; simp [go_sem]
  have q1_1_1 : z1.i.cell? ⟨w.heap.size + 1, 1, none⟩ = some (.int .i16 ay) := by rw [z1.cell (by simp <;> omega)]; simp [go_sem]
  have sz1 := z1.size
  simp at sz1
  have l1_0 : w.heap.size < z1.i.heap.size := by omega
  have l1_1 : w.heap.size + 1 < z1.i.heap.size := by omega
  have bW1 : Below w.heap.size w z1.i := (((Below.refl _ w).alloc (by simp <;> omega) _).alloc (by simp <;> omega) _).trans (z1.h.mono (by simp <;> omega))
  clear sz1
  generalize z1.i = Z1 at *
  clear z1
  go_wp2_with fail
  refine (K2.out _).mono ?_
  rintro e w' ⟨rfl, z2, rfl⟩
  have q2_0_0 : z2.i.cell? ⟨w.heap.size, 0, none⟩ = some (.int .i16 px) := by rw [z2.cell (by simp; omega), World.cell?_alloc_lt _ _ _ (by simpa using l1_0)]; exact q1_0_0
  have q2_0_1 : z2.i.cell? ⟨w.heap.size, 1, none⟩ = some (.int .i16 py) := by rw [z2.cell (by simp; omega), World.cell?_alloc_lt _ _ _ (by simpa using l1_0)]; exact q1_0_1
  have q2_1_0 : z2.i.cell? ⟨w.heap.size + 1, 0, none⟩ = some (.int .i16 ax) := by rw [z2.cell (by simp; omega), World.cell?_alloc_lt _ _ _ (by simpa using l1_1)]; exact q1_1_0
  have q2_1_1 : z2.i.cell? ⟨w.heap.size + 1, 1, none⟩ = some (.int .i16 ay) := by rw [z2.cell (by simp; omega), World.cell?_alloc_lt _ _ _ (by simpa using l1_1)]; exact q1_1_1
  have q2_2_0 : z2.i.cell? ⟨Z1.heap.size, 0, none⟩ = some (.int .i16 0) := by rw [z2.cell (by simp)]; simp [go_sem]
  have q2_2_1 : z2.i.cell? ⟨Z1.heap.size, 1, none⟩ = some (.int .i16 0) := by rw [z2.cell (by simp)]; simp [go_sem]
  have sz2 := z2.size
  simp at sz2
  have l2_0 : w.heap.size < z2.i.heap.size := by omega
  have l2_1 : w.heap.size + 1 < z2.i.heap.size := by omega
  have l2_2 : Z1.heap.size < z2.i.heap.size := by omega
  have bW2 : Below w.heap.size w z2.i := (bW1.alloc bW1.size _).trans (z2.h.mono (Nat.le_trans bW1.size (by simp)))
  clear sz2 q1_0_0 q1_0_1 q1_1_0 q1_1_1 l1_0 l1_1 bW1
  generalize Z1.heap.size = b2 at *
  generalize z2.i = Z2 at *
  clear z2
  go_wp2_with fail
  refine wp_region_bw (Z2.heap.size + 1) _ (Below.refl _ _) (by kernel_rfl) (by kernel_rfl) ?_
  repeat (go_big_quiet_step ((first
    | (go_at_call 41; exact Calls.bw_of (by simp) (at_any _ _ _))
    | (go_at_call 23; exact Calls.bw_of (by simp) (lives_any _)))))
  refine wpQuiet_nil ?_
  intro x
  go_wp2
  go_ret
  exact gives_of_eq rfl ((bW2.alloc bW2.size _).trans (x.h.mono (Nat.le_succ_of_le bW2.size)))

set_option maxHeartbeats 4000000 in
theorem quarters_yes (px py ax ay m n m4 n4 X Y RX RY D : Int) (rok : Bool) (w : World) (hm : m.tmod 4 = m4) (hn : n.tmod 4 = n4) (b1 : -3 ≤ m4) (b2 : m4 ≤ 3) (b3 : -3 ≤ n4) (b4 : n4 ≤ 3)
    (k1 : ∀ w, Calls Try.prog 35 #[.agg #[.int .i16 px, .int .i16 py], .agg #[.int .i16 ax, .int .i16 ay], .int .i64 m] w (Gives (.tuple #[.agg #[.int .i16 X, .int .i16 Y], .bool true]) w))
    (k2 : ∀ w, Calls Try.prog 35 #[.agg #[.int .i16 px, .int .i16 py], .agg #[.int .i16 ax, .int .i16 ay], .int .i64 m4] w (Gives (.tuple #[.agg #[.int .i16 X, .int .i16 Y], .bool true]) w))
    (k3 : ∀ w, Calls Try.prog 35 #[.agg #[.int .i16 X, .int .i16 Y], .agg #[.int .i16 ax, .int .i16 ay], .int .i64 n] w (Gives (.tuple #[.agg #[.int .i16 RX, .int .i16 RY], .bool rok]) w))
    (k4 : ∀ w, Calls Try.prog 35 #[.agg #[.int .i16 px, .int .i16 py], .agg #[.int .i16 ax, .int .i16 ay], .int .i64 (m4 + n4)] w (Gives (.tuple #[.agg #[.int .i16 RX, .int .i16 RY], .bool rok]) w))
    (k5 : ∀ w, Calls Try.prog 35 #[.agg #[.int .i16 X, .int .i16 Y], .agg #[.int .i16 ax, .int .i16 ay], .int .i64 (-m4)] w (Gives (.tuple #[.agg #[.int .i16 px, .int .i16 py], .bool true]) w))
    (k6 : ∀ w, Calls Try.prog 21 #[.agg #[.int .i16 X, .int .i16 Y], .agg #[.int .i16 ax, .int .i16 ay]] w (Gives (.int .i64 D) w))
    (k7 : ∀ w, Calls Try.prog 21 #[.agg #[.int .i16 px, .int .i16 py], .agg #[.int .i16 ax, .int .i16 ay]] w (Gives (.int .i64 D) w)) :
    Calls Try.prog 14 #[.agg #[.int .i16 px, .int .i16 py], .agg #[.int .i16 ax, .int .i16 ay], .int .i64 m, .int .i64 n] w (Gives (.bool true) w) := by
  have K1 := Lib.hid k1
  have K2 := Lib.hid k2
  have K3 := Lib.hid k3
  have K4 := Lib.hid k4
  have K5 := Lib.hid k5
  have k8 : ∀ w u v, (u = X ∧ v = Y) ∨ (u = px ∧ v = py) → Calls Try.prog 21 #[.agg #[.int .i16 u, .int .i16 v], .agg #[.int .i16 ax, .int .i16 ay]] w (Gives (.int .i64 D) w) := fun w u v h => by
    rcases h with ⟨rfl, rfl⟩ | ⟨rfl, rfl⟩
    · exact k6 w
    · exact k7 w
  have K6 := Lib.hid k8
  clear k8
  clear k1 k2 k3 k4 k5 k6 k7
  go_enter Try.func14, Try.ntmps14
  go_wp2_with fail
  refine (K1.out _).mono ?_
  rintro e w' ⟨rfl, z1, rfl⟩
  have q1_0_0 : z1.i.cell? ⟨w.heap.size, 0, none⟩ = some (.int .i16 px) := by rw [z1.cell (by simp <;> omega)]; simp [go_sem]
  have q1_0_1 : z1.i.cell? ⟨w.heap.size, 1, none⟩ = some (.int .i16 py) := by rw [z1.cell (by simp <;> omega)]; simp [go_sem]
  have q1_1_0 : z1.i.cell? ⟨w.heap.size + 1, 0, none⟩ = some (.int .i16 ax) := by rw [z1.cell (by simp <;> omega)]; simp [go_sem]
  have q1_1_1 : z1.i.cell? ⟨w.heap.size + 1, 1, none⟩ = some (.int .i16 ay) := by rw [z1.cell (by simp <;> omega)]; simp [go_sem]
  have sz1 := z1.size
  simp at sz1
  have l1_0 : w.heap.size < z1.i.heap.size := by omega
  have l1_1 : w.heap.size + 1 < z1.i.heap.size := by omega
  have bW1 : Below w.heap.size w z1.i := (((Below.refl _ w).alloc (by simp <;> omega) _).alloc (by simp <;> omega) _).trans (z1.h.mono (by simp <;> omega))
  clear sz1
  generalize z1.i = Z1 at *
  clear z1
  go_wp2_with fail
  refine (K2.out _).mono ?_
  rintro e w' ⟨rfl, z2, rfl⟩
  have q2_0_0 : z2.i.cell? ⟨w.heap.size, 0, none⟩ = some (.int .i16 px) := by rw [z2.cell (by simp; omega), World.cell?_alloc_lt _ _ _ (by simpa using l1_0)]; exact q1_0_0
  have q2_0_1 : z2.i.cell? ⟨w.heap.size, 1, none⟩ = some (.int .i16 py) := by rw [z2.cell (by simp; omega), World.cell?_alloc_lt _ _ _ (by simpa using l1_0)]; exact q1_0_1
  have q2_1_0 : z2.i.cell? ⟨w.heap.size + 1, 0, none⟩ = some (.int .i16 ax) := by rw [z2.cell (by simp; omega), World.cell?_alloc_lt _ _ _ (by simpa using l1_1)]; exact q1_1_0
  have q2_1_1 : z2.i.cell? ⟨w.heap.size + 1, 1, none⟩ = some (.int .i16 ay) := by rw [z2.cell (by simp; omega), World.cell?_alloc_lt _ _ _ (by simpa using l1_1)]; exact q1_1_1
  have q2_2_0 : z2.i.cell? ⟨Z1.heap.size, 0, none⟩ = some (.int .i16 X) := by rw [z2.cell (by simp)]; simp [go_sem]
  have q2_2_1 : z2.i.cell? ⟨Z1.heap.size, 1, none⟩ = some (.int .i16 Y) := by rw [z2.cell (by simp)]; simp [go_sem]
  have sz2 := z2.size
  simp at sz2
  have l2_0 : w.heap.size < z2.i.heap.size := by omega
  have l2_1 : w.heap.size + 1 < z2.i.heap.size := by omega
  have l2_2 : Z1.heap.size < z2.i.heap.size := by omega
  have bW2 : Below w.heap.size w z2.i := (bW1.alloc bW1.size _).trans (z2.h.mono (Nat.le_trans bW1.size (by simp)))
  clear sz2 q1_0_0 q1_0_1 q1_1_0 q1_1_1 l1_0 l1_1 bW1
  generalize Z1.heap.size = b2 at *
  generalize z2.i = Z2 at *
  clear z2
  go_wp2_with fail
  refine (K3.out _).mono ?_
  rintro e w' ⟨rfl, z3, rfl⟩
  have q3_0_0 : z3.i.cell? ⟨w.heap.size, 0, none⟩ = some (.int .i16 px) := by rw [z3.cell (by simp; omega), World.cell?_alloc_lt _ _ _ (by simpa using l2_0)]; exact q2_0_0
  have q3_0_1 : z3.i.cell? ⟨w.heap.size, 1, none⟩ = some (.int .i16 py) := by rw [z3.cell (by simp; omega), World.cell?_alloc_lt _ _ _ (by simpa using l2_0)]; exact q2_0_1
  have q3_1_0 : z3.i.cell? ⟨w.heap.size + 1, 0, none⟩ = some (.int .i16 ax) := by rw [z3.cell (by simp; omega), World.cell?_alloc_lt _ _ _ (by simpa using l2_1)]; exact q2_1_0
  have q3_1_1 : z3.i.cell? ⟨w.heap.size + 1, 1, none⟩ = some (.int .i16 ay) := by rw [z3.cell (by simp; omega), World.cell?_alloc_lt _ _ _ (by simpa using l2_1)]; exact q2_1_1
  have q3_2_0 : z3.i.cell? ⟨b2, 0, none⟩ = some (.int .i16 X) := by rw [z3.cell (by simp; omega), World.cell?_alloc_lt _ _ _ (by simpa using l2_2)]; exact q2_2_0
  have q3_2_1 : z3.i.cell? ⟨b2, 1, none⟩ = some (.int .i16 Y) := by rw [z3.cell (by simp; omega), World.cell?_alloc_lt _ _ _ (by simpa using l2_2)]; exact q2_2_1
  have q3_3_0 : z3.i.cell? ⟨Z2.heap.size, 0, none⟩ = some (.int .i16 X) := by rw [z3.cell (by simp)]; simp [go_sem]
  have q3_3_1 : z3.i.cell? ⟨Z2.heap.size, 1, none⟩ = some (.int .i16 Y) := by rw [z3.cell (by simp)]; simp [go_sem]
  have sz3 := z3.size
  simp at sz3
  have l3_0 : w.heap.size < z3.i.heap.size := by omega
  have l3_1 : w.heap.size + 1 < z3.i.heap.size := by omega
  have l3_2 : b2 < z3.i.heap.size := by omega
  have l3_3 : Z2.heap.size < z3.i.heap.size := by omega
  have bW3 : Below w.heap.size w z3.i := (bW2.alloc bW2.size _).trans (z3.h.mono (Nat.le_trans bW2.size (by simp)))
  clear sz3 q2_0_0 q2_0_1 q2_1_0 q2_1_1 q2_2_0 q2_2_1 l2_0 l2_1 l2_2 bW2
  generalize Z2.heap.size = b3 at *
  generalize z3.i = Z3 at *
  clear z3
  go_wp2_with fail
  refine (K4.out _).mono ?_
  rintro e w' ⟨rfl, z4, rfl⟩
  have q4_0_0 : z4.i.cell? ⟨w.heap.size, 0, none⟩ = some (.int .i16 px) := by rw [z4.cell (by simp; omega), World.cell?_alloc_lt _ _ _ (by simpa using l3_0)]; exact q3_0_0
  have q4_0_1 : z4.i.cell? ⟨w.heap.size, 1, none⟩ = some (.int .i16 py) := by rw [z4.cell (by simp; omega), World.cell?_alloc_lt _ _ _ (by simpa using l3_0)]; exact q3_0_1
  have q4_1_0 : z4.i.cell? ⟨w.heap.size + 1, 0, none⟩ = some (.int .i16 ax) := by rw [z4.cell (by simp; omega), World.cell?_alloc_lt _ _ _ (by simpa using l3_1)]; exact q3_1_0
  have q4_1_1 : z4.i.cell? ⟨w.heap.size + 1, 1, none⟩ = some (.int .i16 ay) := by rw [z4.cell (by simp; omega), World.cell?_alloc_lt _ _ _ (by simpa using l3_1)]; exact q3_1_1
  have q4_2_0 : z4.i.cell? ⟨b2, 0, none⟩ = some (.int .i16 X) := by rw [z4.cell (by simp; omega), World.cell?_alloc_lt _ _ _ (by simpa using l3_2)]; exact q3_2_0
  have q4_2_1 : z4.i.cell? ⟨b2, 1, none⟩ = some (.int .i16 Y) := by rw [z4.cell (by simp; omega), World.cell?_alloc_lt _ _ _ (by simpa using l3_2)]; exact q3_2_1
  have q4_3_0 : z4.i.cell? ⟨b3, 0, none⟩ = some (.int .i16 X) := by rw [z4.cell (by simp; omega), World.cell?_alloc_lt _ _ _ (by simpa using l3_3)]; exact q3_3_0
  have q4_3_1 : z4.i.cell? ⟨b3, 1, none⟩ = some (.int .i16 Y) := by rw [z4.cell (by simp; omega), World.cell?_alloc_lt _ _ _ (by simpa using l3_3)]; exact q3_3_1
  have q4_4_0 : z4.i.cell? ⟨Z3.heap.size, 0, none⟩ = some (.int .i16 RX) := by rw [z4.cell (by simp)]; simp [go_sem]
  have q4_4_1 : z4.i.cell? ⟨Z3.heap.size, 1, none⟩ = some (.int .i16 RY) := by rw [z4.cell (by simp)]; simp [go_sem]
  have sz4 := z4.size
  simp at sz4
  have l4_0 : w.heap.size < z4.i.heap.size := by omega
  have l4_1 : w.heap.size + 1 < z4.i.heap.size := by omega
  have l4_2 : b2 < z4.i.heap.size := by omega
  have l4_3 : b3 < z4.i.heap.size := by omega
  have l4_4 : Z3.heap.size < z4.i.heap.size := by omega
  have bW4 : Below w.heap.size w z4.i := (bW3.alloc bW3.size _).trans (z4.h.mono (Nat.le_trans bW3.size (by simp)))
  clear sz4 q3_0_0 q3_0_1 q3_1_0 q3_1_1 q3_2_0 q3_2_1 q3_3_0 q3_3_1 l3_0 l3_1 l3_2 l3_3 bW3
  generalize Z3.heap.size = b4 at *
  generalize z4.i = Z4 at *
  clear z4
  go_wp2_with fail
  refine (K5.out _).mono ?_
  rintro e w' ⟨rfl, z5, rfl⟩
  have q5_0_0 : z5.i.cell? ⟨w.heap.size, 0, none⟩ = some (.int .i16 px) := by rw [z5.cell (by simp; omega), World.cell?_alloc_lt _ _ _ (by simpa using l4_0)]; exact q4_0_0
  have q5_0_1 : z5.i.cell? ⟨w.heap.size, 1, none⟩ = some (.int .i16 py) := by rw [z5.cell (by simp; omega), World.cell?_alloc_lt _ _ _ (by simpa using l4_0)]; exact q4_0_1
  have q5_1_0 : z5.i.cell? ⟨w.heap.size + 1, 0, none⟩ = some (.int .i16 ax) := by rw [z5.cell (by simp; omega), World.cell?_alloc_lt _ _ _ (by simpa using l4_1)]; exact q4_1_0
  have q5_1_1 : z5.i.cell? ⟨w.heap.size + 1, 1, none⟩ = some (.int .i16 ay) := by rw [z5.cell (by simp; omega), World.cell?_alloc_lt _ _ _ (by simpa using l4_1)]; exact q4_1_1
  have q5_2_0 : z5.i.cell? ⟨b2, 0, none⟩ = some (.int .i16 X) := by rw [z5.cell (by simp; omega), World.cell?_alloc_lt _ _ _ (by simpa using l4_2)]; exact q4_2_0
  have q5_2_1 : z5.i.cell? ⟨b2, 1, none⟩ = some (.int .i16 Y) := by rw [z5.cell (by simp; omega), World.cell?_alloc_lt _ _ _ (by simpa using l4_2)]; exact q4_2_1
  have q5_3_0 : z5.i.cell? ⟨b3, 0, none⟩ = some (.int .i16 X) := by rw [z5.cell (by simp; omega), World.cell?_alloc_lt _ _ _ (by simpa using l4_3)]; exact q4_3_0
  have q5_3_1 : z5.i.cell? ⟨b3, 1, none⟩ = some (.int .i16 Y) := by rw [z5.cell (by simp; omega), World.cell?_alloc_lt _ _ _ (by simpa using l4_3)]; exact q4_3_1
  have q5_4_0 : z5.i.cell? ⟨b4, 0, none⟩ = some (.int .i16 RX) := by rw [z5.cell (by simp; omega), World.cell?_alloc_lt _ _ _ (by simpa using l4_4)]; exact q4_4_0
  have q5_4_1 : z5.i.cell? ⟨b4, 1, none⟩ = some (.int .i16 RY) := by rw [z5.cell (by simp; omega), World.cell?_alloc_lt _ _ _ (by simpa using l4_4)]; exact q4_4_1
  have q5_5_0 : z5.i.cell? ⟨Z4.heap.size, 0, none⟩ = some (.int .i16 RX) := by rw [z5.cell (by simp)]; simp [go_sem]
  have q5_5_1 : z5.i.cell? ⟨Z4.heap.size, 1, none⟩ = some (.int .i16 RY) := by rw [z5.cell (by simp)]; simp [go_sem]
  have sz5 := z5.size
  simp at sz5
  have l5_0 : w.heap.size < z5.i.heap.size := by omega
  have l5_1 : w.heap.size + 1 < z5.i.heap.size := by omega
  have l5_2 : b2 < z5.i.heap.size := by omega
  have l5_3 : b3 < z5.i.heap.size := by omega
  have l5_4 : b4 < z5.i.heap.size := by omega
  have l5_5 : Z4.heap.size < z5.i.heap.size := by omega
  have bW5 : Below w.heap.size w z5.i := (bW4.alloc bW4.size _).trans (z5.h.mono (Nat.le_trans bW4.size (by simp)))
  clear sz5 q4_0_0 q4_0_1 q4_1_0 q4_1_1 q4_2_0 q4_2_1 q4_3_0 q4_3_1 q4_4_0 q4_4_1 l4_0 l4_1 l4_2 l4_3 l4_4 bW4
  generalize Z4.heap.size = b5 at *
  generalize z5.i = Z5 at *
  clear z5
  go_wp2_with fail
  have m0 : w.heap.size < Z5.heap.size + 1 := by omega
  have m1 : w.heap.size + 1 < Z5.heap.size + 1 := by omega
  have m2 : b2 < Z5.heap.size + 1 := by omega
  have m3 : b3 < Z5.heap.size + 1 := by omega
  have m4 : b4 < Z5.heap.size + 1 := by omega
  have m5 : b5 < Z5.heap.size + 1 := by omega
  refine wp_region_bw (Z5.heap.size + 1) _ (Below.refl _ _) (by kernel_rfl) (by kernel_rfl) ?_
  repeat (go_big_quiet_step ((first
    | (go_at_call 21; exact Calls.bw_of (by simp) (K6.out _ _ _ (by first | exact .inl ⟨rfl, rfl⟩ | exact .inr ⟨rfl, rfl⟩)))
    | (go_at_call 23; exact Calls.bw_of (by simp) (lives_any _)))))
  refine wpQuiet_nil ?_
  intro x
  go_wp2
  go_ret
  exact gives_of_eq rfl ((bW5.alloc bW5.size _).trans (x.h.mono (Nat.le_succ_of_le bW5.size)))

theorem qrt_emod (q : Int) : qrt q = q % 4 ∧ (q.tmod 4) % 4 = q % 4 ∧ -3 ≤ q.tmod 4 ∧ q.tmod 4 ≤ 3 := by
  have h : (q.tmod 4) % 4 = q % 4 ∧ -3 ≤ q.tmod 4 ∧ q.tmod 4 ≤ 3 := by
    rcases Int.le_total 0 q with h | h
    · rw [Int.tmod_eq_emod_of_nonneg h]; omega
    · have e : q.tmod 4 = -((-q).tmod 4) := by rw [Int.neg_tmod, Int.neg_neg]
      rw [e, Int.tmod_eq_emod_of_nonneg (by omega)]; omega
  refine ⟨?_, h⟩
  unfold qrt
  rw [Int.tmod_eq_emod_of_nonneg (by omega)]
  omega

theorem rot_rot (i j k x y : Int) (hi : i = 0 ∨ i = 1 ∨ i = 2 ∨ i = 3) (hj : j = 0 ∨ j = 1 ∨ j = 2 ∨ j = 3) (hk : k = (i + j) % 4) :
    rotX i (rotX j x y) (rotY j x y) = rotX k x y ∧ rotY i (rotX j x y) (rotY j x y) = rotY k x y := by
  subst hk
  rcases hi with rfl | rfl | rfl | rfl <;> rcases hj with rfl | rfl | rfl | rfl <;> simp [rotX, rotY]

theorem rot_apart (j x y a b : Int) (hj : j = 0 ∨ j = 1 ∨ j = 2 ∨ j = 3) : apart (rotX j x y + a) a + apart (rotY j x y + b) b = apart (x + a) a + apart (y + b) b := by
  rcases hj with rfl | rfl | rfl | rfl <;> simp [rotX, rotY, apart] <;> (repeat' split) <;> omega

theorem turn_at (px py ax ay X Y q j : Int) (h1 : -32768 ≤ px) (h2 : px ≤ 32767) (h3 : -32768 ≤ py) (h4 : py ≤ 32767) (h5 : -32768 ≤ ax) (h6 : ax ≤ 32767) (h7 : -32768 ≤ ay) (h8 : ay ≤ 32767) (hq : q % 4 = j) (hX : rotX j (px - ax) (py - ay) + ax = X) (hY : rotY j (px - ax) (py - ay) + ay = Y) (w : World) :
    Calls Try.prog 35 #[.agg #[.int .i16 px, .int .i16 py], .agg #[.int .i16 ax, .int .i16 ay], .int .i64 q] w (Gives (pin X Y) w) := by
  have h := turn_any px py ax ay q w h1 h2 h3 h4 h5 h6 h7 h8
  rw [(qrt_emod q).1, hq, hX, hY] at h
  exact h

theorem quarters_law (px py ax ay m n : Int) (w : World) (h1 : -32768 ≤ px) (h2 : px ≤ 32767) (h3 : -32768 ≤ py) (h4 : py ≤ 32767) (h5 : -32768 ≤ ax) (h6 : ax ≤ 32767) (h7 : -32768 ≤ ay) (h8 : ay ≤ 32767) :
    Calls Try.prog 14 #[.agg #[.int .i16 px, .int .i16 py], .agg #[.int .i16 ax, .int .i16 ay], .int .i64 m, .int .i64 n] w (Gives (.bool true) w) := by
  obtain ⟨m1, m2, m3, m4⟩ := qrt_emod m
  obtain ⟨n1, n2, n3, n4⟩ := qrt_emod n
  have hj : m % 4 = 0 ∨ m % 4 = 1 ∨ m % 4 = 2 ∨ m % 4 = 3 := by omega
  have hi : n % 4 = 0 ∨ n % 4 = 1 ∨ n % 4 = 2 ∨ n % 4 = 3 := by omega
  generalize hX : rotX (m % 4) (px - ax) (py - ay) + ax = X
  generalize hY : rotY (m % 4) (px - ax) (py - ay) + ay = Y
  have k1 := turn_at px py ax ay X Y m _ h1 h2 h3 h4 h5 h6 h7 h8 rfl hX hY
  have k2 := turn_at px py ax ay X Y (m.tmod 4) _ h1 h2 h3 h4 h5 h6 h7 h8 m2 hX hY
  cases hok : (inP X && inP Y)
  · have e : pin X Y = .tuple #[.agg #[.int .i16 0, .int .i16 0], .bool false] := by unfold pin; rw [hok]; rfl
    rw [e] at k1 k2
    exact quarters_no px py ax ay m n _ w rfl k1 k2
  · have e : pin X Y = .tuple #[.agg #[.int .i16 X, .int .i16 Y], .bool true] := by unfold pin; rw [hok]; rfl
    rw [e] at k1 k2
    have hb : -32768 ≤ X ∧ X ≤ 32767 ∧ -32768 ≤ Y ∧ Y ≤ 32767 := by unfold inP at hok; simp at hok; omega
    obtain ⟨x1, x2, y1, y2⟩ := hb
    have eX : X - ax = rotX (m % 4) (px - ax) (py - ay) := by omega
    have eY : Y - ay = rotY (m % 4) (px - ax) (py - ay) := by omega
    have hsum : (m.tmod 4 + n.tmod 4) % 4 = (n % 4 + m % 4) % 4 := by omega
    obtain ⟨r1, r2⟩ := rot_rot (n % 4) (m % 4) _ (px - ax) (py - ay) hi hj rfl
    rw [← eX, ← eY] at r1 r2
    have k3 := turn_at X Y ax ay _ _ n _ x1 x2 y1 y2 h5 h6 h7 h8 rfl (by rw [r1]) (by rw [r2])
    have k4 := turn_at px py ax ay _ _ (m.tmod 4 + n.tmod 4) _ h1 h2 h3 h4 h5 h6 h7 h8 hsum rfl rfl
    have hback : (-(m.tmod 4)) % 4 = 0 ∨ (-(m.tmod 4)) % 4 = 1 ∨ (-(m.tmod 4)) % 4 = 2 ∨ (-(m.tmod 4)) % 4 = 3 := by omega
    obtain ⟨s1, s2⟩ := rot_rot ((-(m.tmod 4)) % 4) (m % 4) 0 (px - ax) (py - ay) hback hj (by omega)
    rw [← eX, ← eY] at s1 s2
    have k5 := turn_at X Y ax ay px py (-(m.tmod 4)) _ x1 x2 y1 y2 h5 h6 h7 h8 rfl (by rw [s1]; simp [rotX]) (by rw [s2]; simp [rotY])
    have ep : pin px py = .tuple #[.agg #[.int .i16 px, .int .i16 py], .bool true] := by
      have : (inP px && inP py) = true := by unfold inP; simp; omega
      unfold pin; rw [this]; rfl
    rw [ep] at k5
    have hd := rot_apart (m % 4) (px - ax) (py - ay) ax ay hj
    rw [hX, hY, Int.sub_add_cancel, Int.sub_add_cancel] at hd
    have k6 := fun w => dist_any X Y ax ay w x1 x2 y1 y2 h5 h6 h7 h8
    rw [hd] at k6
    exact quarters_yes px py ax ay m n _ _ X Y _ _ _ _ w rfl rfl m3 m4 n3 n4 k1 k2 k3 k4 k5 k6 (fun w => dist_any px py ax ay w h1 h2 h3 h4 h5 h6 h7 h8)

set_option maxRecDepth 100000 in
theorem quarters_lifted (os : Os) (started : os.Started) (H : Type) (enc : TypeId × Value → H) :
    ReturnsInHanded {} Try.checked os 14 .any (Rows.planeQuartersSpec.pre6 enc Try.prog Try.f14 Rows.planeQuartersRow.domain false) (Rows.planeQuartersSpec.post enc Try.prog Try.f14 false true false false) := by
  refine returnsInHanded_of_change (C := Try.checked) Try.own started (by kernel_rfl) Try.func14
    (ChangeSpec.witness6 (enc := enc) (C := Try.checked) false ⟨#[], #[.agg #[.int .i16 0, .int .i16 0], .agg #[.int .i16 0, .int .i16 0], .int .i64 0, .int .i64 0], []⟩ 8 (by kernel_rfl) (by kernel_rfl) (by kernel_rfl) (by kernel_rfl)) ?_
  intro W base args ds gs before hval0 hW hcnd _
  have hval : ∀ (j : Nat) t v, Try.f14.params[j]? = some t → args[j]? = some v → Value.okWide Try.prog W .any base t v := hval0
  have hW' := hW
  obtain ⟨p, q, hA0, hV, rfl, hfz, hnd⟩ := hW
  have hA : DataW.TrodAll enc Try.prog W 0 (fun _ => true) true Try.f14.params.toList args.toList ds p := hA0
  rw [Try.params14] at hA hval
  obtain ⟨v0, v1, v2, v3, d0, d1, d2, d3, p0, p1, p2, p3, rfl, rfl, rfl, h0, h1, h2, h3⟩ := trodAll_four hA
  obtain ⟨rfl, rfl⟩ := trodVars_none hV
  obtain ⟨a0x, a0y, rfl, rfl, rfl, g00, g01, g02, g03⟩ := open_pt (hval 0 24 _ rfl rfl) h0
  obtain ⟨a1x, a1y, rfl, rfl, rfl, g10, g11, g12, g13⟩ := open_pt (hval 1 24 _ rfl rfl) h1
  obtain ⟨a2x, rfl, rfl, rfl, g20, g21⟩ := open_i (hval 2 3 _ rfl rfl) h2
  obtain ⟨a3x, rfl, rfl, rfl, g30, g31⟩ := open_i (hval 3 3 _ rfl rfl) h3
  refine (quarters_law _ _ _ _ _ _ W g00 g01 g02 g03 g10 g11 g12 g13).mono fun e W2 ⟨he, x, hx⟩ => ⟨_, he, ?_⟩
  exact law_post hW' rfl rfl rfl (by kernel_rfl) (hx ▸ x.h)

theorem quarters_holds : Rows.PlaneQuartersSaid :=
  OpenClaim.holds_of_wide 14 Try.f14 rfl rfl rfl rfl rfl rfl rfl ⟨rfl, rfl, rfl, rfl, rfl⟩ rfl rfl rfl rfl rfl (by kernel_rfl) Try.func14 (by kernel_rfl)
    (of_decide_eq_true (by kernel_rfl)) (by unfold Func.isWrapper; rw [if_neg (of_decide_eq_false (by kernel_rfl))]; exact ⟨rfl, rfl⟩)
    (fun os started H enc _ => quarters_lifted os started H enc)
end Go.Proofs.Ytilimgjmiijkiaa
