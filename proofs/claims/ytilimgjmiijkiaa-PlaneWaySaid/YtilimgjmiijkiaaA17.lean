/- The walk of PlaneWay: what the distances and the steps give decides the answer. -/
import Derived.Test.YtilimgjmiijkiaaL
import Derived.Test.YtilimgjmiijkiaaA5
import Derived.Test.YtilimgjmiijkiaaA14
import Derived.Test.YtilimgjmiijkiaaA15
namespace Go.Proofs.Ytilimgjmiijkiaa
open Go.ChangeShapes Go.WideShapes Go.ChangeAt Go.RowKit Go.Joins
attribute [local go_sem] BW.cell BW.frozen
set_option linter.unusedVariables false

set_option maxHeartbeats 4000000 in
theorem way_000 (fx fy tx ty m n D M N k e PX PY QX QY SX SY m0 n0 : Int) (w : World) (d1 : 0 ≤ D) (d2 : D ≤ 131070) (dz : ¬ D + 3 = 0) (hm : m.tmod (D + 3) = m0) (hn : n.tmod (D + 3) = n0) (mb : -131073 < m0) (mb' : m0 < 131073) (nb : -131073 < n0) (nb' : n0 < 131073)
    (m1 : ¬ m0 < 0) (m2 : m0 = M) (n1 : ¬ n0 < 0) (n2 : n0 = N) (k1 : D < M) (k2 : k = D) (k3 : e = D - k) (k4 : D - k < 1) (k5 : ¬ M ≤ D) (k6 : 0 ≤ D - k)
    (h0 : ∀ w, Calls Try.prog 21 #[.agg #[.int .i16 fx, .int .i16 fy], .agg #[.int .i16 tx, .int .i16 ty]] w (Gives (.int .i64 D) w))
    (h1 : ∀ w, Calls Try.prog 24 #[.agg #[.int .i16 fx, .int .i16 fy], .agg #[.int .i16 tx, .int .i16 ty], .int .i64 M] w (Gives (.agg #[.int .i16 PX, .int .i16 PY]) w))
    (h2 : ∀ w, Calls Try.prog 24 #[.agg #[.int .i16 PX, .int .i16 PY], .agg #[.int .i16 tx, .int .i16 ty], .int .i64 N] w (Gives (.agg #[.int .i16 QX, .int .i16 QY]) w))
    (h3 : ∀ w a b c d v, (a = fx ∧ b = fy ∧ c = PX ∧ d = PY ∧ v = k) ∨ (a = PX ∧ b = PY ∧ c = tx ∧ d = ty ∧ v = D - k) ∨ (a = PX ∧ b = PY ∧ c = SX ∧ d = SY ∧ v = e) →
      Calls Try.prog 21 #[.agg #[.int .i16 a, .int .i16 b], .agg #[.int .i16 c, .int .i16 d]] w (Gives (.int .i64 v) w))
    (h4 : ∀ w a b c d v, (a = fx ∧ b = fy ∧ v = M + N ∧ c = QX ∧ d = QY) ∨ (a = PX ∧ b = PY ∧ v = 1 ∧ c = SX ∧ d = SY) →
      Calls Try.prog 24 #[.agg #[.int .i16 a, .int .i16 b], .agg #[.int .i16 tx, .int .i16 ty], .int .i64 v] w (Gives (.agg #[.int .i16 c, .int .i16 d]) w)) :
    Calls Try.prog 12 #[.agg #[.int .i16 fx, .int .i16 fy], .agg #[.int .i16 tx, .int .i16 ty], .int .i64 m, .int .i64 n] w (Gives (.bool true) w) := by
  have K0 := Lib.hid h0
  have K1 := Lib.hid h1
  have K2 := Lib.hid h2
  have K3 := Lib.hid h3
  have K4 := Lib.hid h4
  clear h0 h1 h2 h3 h4
  go_enter Try.func12, Try.ntmps12
  go_wp2_with fail
  refine (K0.out _).mono ?_
  rintro e w' ⟨rfl, z1, rfl⟩
  have q1_0_0 : z1.i.cell? ⟨w.heap.size, 0, none⟩ = some (.int .i16 fx) := by rw [z1.cell (by simp <;> omega)]; simp [go_sem]
  have q1_0_1 : z1.i.cell? ⟨w.heap.size, 1, none⟩ = some (.int .i16 fy) := by rw [z1.cell (by simp <;> omega)]; simp [go_sem]
  have q1_1_0 : z1.i.cell? ⟨w.heap.size + 1, 0, none⟩ = some (.int .i16 tx) := by rw [z1.cell (by simp <;> omega)]; simp [go_sem]
  have q1_1_1 : z1.i.cell? ⟨w.heap.size + 1, 1, none⟩ = some (.int .i16 ty) := by rw [z1.cell (by simp <;> omega)]; simp [go_sem]
  have sz1 := z1.size
  simp at sz1
  have l1_0 : w.heap.size < z1.i.heap.size := by omega
  have l1_1 : w.heap.size + 1 < z1.i.heap.size := by omega
  have bW1 : Below w.heap.size w z1.i := (((Below.refl _ w).alloc (by simp <;> omega) _).alloc (by simp <;> omega) _).trans (z1.h.mono (by simp <;> omega))
  clear sz1
  generalize z1.i = Z1 at *
  clear z1
  go_wp2_with fail
  refine (K1.out _).mono ?_
  rintro e w' ⟨rfl, z2, rfl⟩
  have q2_0_0 : z2.i.cell? ⟨w.heap.size, 0, none⟩ = some (.int .i16 fx) := by rw [z2.cell l1_0]; exact q1_0_0
  have q2_0_1 : z2.i.cell? ⟨w.heap.size, 1, none⟩ = some (.int .i16 fy) := by rw [z2.cell l1_0]; exact q1_0_1
  have q2_1_0 : z2.i.cell? ⟨w.heap.size + 1, 0, none⟩ = some (.int .i16 tx) := by rw [z2.cell l1_1]; exact q1_1_0
  have q2_1_1 : z2.i.cell? ⟨w.heap.size + 1, 1, none⟩ = some (.int .i16 ty) := by rw [z2.cell l1_1]; exact q1_1_1
  have sz2 := z2.size
  have l2_0 : w.heap.size < z2.i.heap.size := by omega
  have l2_1 : w.heap.size + 1 < z2.i.heap.size := by omega
  have bW2 : Below w.heap.size w z2.i := bW1.trans (z2.h.mono bW1.size)
  clear sz2 q1_0_0 q1_0_1 q1_1_0 q1_1_1 l1_0 l1_1 bW1
  generalize z2.i = Z2 at *
  clear z2
  go_wp2_with fail
  refine (K2.out _).mono ?_
  rintro e w' ⟨rfl, z3, rfl⟩
  have q3_0_0 : z3.i.cell? ⟨w.heap.size, 0, none⟩ = some (.int .i16 fx) := by rw [z3.cell (by simp; omega), World.cell?_alloc_lt _ _ _ (by simpa using l2_0)]; exact q2_0_0
  have q3_0_1 : z3.i.cell? ⟨w.heap.size, 1, none⟩ = some (.int .i16 fy) := by rw [z3.cell (by simp; omega), World.cell?_alloc_lt _ _ _ (by simpa using l2_0)]; exact q2_0_1
  have q3_1_0 : z3.i.cell? ⟨w.heap.size + 1, 0, none⟩ = some (.int .i16 tx) := by rw [z3.cell (by simp; omega), World.cell?_alloc_lt _ _ _ (by simpa using l2_1)]; exact q2_1_0
  have q3_1_1 : z3.i.cell? ⟨w.heap.size + 1, 1, none⟩ = some (.int .i16 ty) := by rw [z3.cell (by simp; omega), World.cell?_alloc_lt _ _ _ (by simpa using l2_1)]; exact q2_1_1
  have q3_2_0 : z3.i.cell? ⟨Z2.heap.size, 0, none⟩ = some (.int .i16 PX) := by rw [z3.cell (by simp)]; simp [go_sem]
  have q3_2_1 : z3.i.cell? ⟨Z2.heap.size, 1, none⟩ = some (.int .i16 PY) := by rw [z3.cell (by simp)]; simp [go_sem]
  have sz3 := z3.size
  simp at sz3
  have l3_0 : w.heap.size < z3.i.heap.size := by omega
  have l3_1 : w.heap.size + 1 < z3.i.heap.size := by omega
  have l3_2 : Z2.heap.size < z3.i.heap.size := by omega
  have bW3 : Below w.heap.size w z3.i := (bW2.alloc bW2.size _).trans (z3.h.mono (Nat.le_trans bW2.size (by simp)))
  clear sz3 q2_0_0 q2_0_1 q2_1_0 q2_1_1 l2_0 l2_1 bW2
  generalize Z2.heap.size = b3 at *
  generalize z3.i = Z3 at *
  clear z3
  go_wp2_with fail
  have m0 : w.heap.size < Z3.heap.size + 1 := by omega
  have m1 : w.heap.size + 1 < Z3.heap.size + 1 := by omega
  have m2 : b3 < Z3.heap.size + 1 := by omega
  refine wp_region_bw (Z3.heap.size + 1) _ (Below.refl _ _) (by kernel_rfl) (by kernel_rfl) ?_
  repeat (go_big_quiet_step ((first
    | (go_at_call 21; exact Calls.bw_of (by simp) (K3.out _ _ _ _ _ _ (by first | exact .inl ⟨rfl, rfl, rfl, rfl, rfl⟩ | exact .inr (.inl ⟨rfl, rfl, rfl, rfl, rfl⟩) | exact .inr (.inr ⟨rfl, rfl, rfl, rfl, rfl⟩))))
    | (go_at_call 24; exact Calls.bw_of (by simp) (K4.out _ _ _ _ _ _ (by first | exact .inl ⟨rfl, rfl, rfl, rfl, rfl⟩ | exact .inr ⟨rfl, rfl, rfl, rfl, rfl⟩)))
    | (go_at_call 23; exact Calls.bw_of (by simp) (lives_any _)))))
  refine wpQuiet_nil ?_
  intro x
  go_wp2_with fail
  refine wp_region_bw (Z3.heap.size + 1) _ x.h (by kernel_rfl) (by kernel_rfl) ?_
  repeat (go_big_quiet_step ((first
    | (go_at_call 21; exact Calls.bw_of (by simp) (K3.out _ _ _ _ _ _ (by first | exact .inl ⟨rfl, rfl, rfl, rfl, rfl⟩ | exact .inr (.inl ⟨rfl, rfl, rfl, rfl, rfl⟩) | exact .inr (.inr ⟨rfl, rfl, rfl, rfl, rfl⟩))))
    | (go_at_call 24; exact Calls.bw_of (by simp) (K4.out _ _ _ _ _ _ (by first | exact .inl ⟨rfl, rfl, rfl, rfl, rfl⟩ | exact .inr ⟨rfl, rfl, rfl, rfl, rfl⟩)))
    | (go_at_call 23; exact Calls.bw_of (by simp) (lives_any _)))))
  refine wpQuiet_nil ?_
  intro y
  go_wp2_with fail
  go_ret
  exact gives_of_eq rfl ((bW3.alloc bW3.size _).trans (y.h.mono (Nat.le_succ_of_le bW3.size)))

set_option maxHeartbeats 4000000 in
theorem way_001 (fx fy tx ty m n D M N k e PX PY QX QY SX SY m0 n0 : Int) (w : World) (d1 : 0 ≤ D) (d2 : D ≤ 131070) (dz : ¬ D + 3 = 0) (hm : m.tmod (D + 3) = m0) (hn : n.tmod (D + 3) = n0) (mb : -131073 < m0) (mb' : m0 < 131073) (nb : -131073 < n0) (nb' : n0 < 131073)
    (m1 : ¬ m0 < 0) (m2 : m0 = M) (n1 : ¬ n0 < 0) (n2 : n0 = N) (k1 : ¬ D < M) (k2 : k = M) (k3 : e = D - k) (k4 : D - k < 1) (k5 : M ≤ D) (k6 : 0 ≤ D - k)
    (h0 : ∀ w, Calls Try.prog 21 #[.agg #[.int .i16 fx, .int .i16 fy], .agg #[.int .i16 tx, .int .i16 ty]] w (Gives (.int .i64 D) w))
    (h1 : ∀ w, Calls Try.prog 24 #[.agg #[.int .i16 fx, .int .i16 fy], .agg #[.int .i16 tx, .int .i16 ty], .int .i64 M] w (Gives (.agg #[.int .i16 PX, .int .i16 PY]) w))
    (h2 : ∀ w, Calls Try.prog 24 #[.agg #[.int .i16 PX, .int .i16 PY], .agg #[.int .i16 tx, .int .i16 ty], .int .i64 N] w (Gives (.agg #[.int .i16 QX, .int .i16 QY]) w))
    (h3 : ∀ w a b c d v, (a = fx ∧ b = fy ∧ c = PX ∧ d = PY ∧ v = k) ∨ (a = PX ∧ b = PY ∧ c = tx ∧ d = ty ∧ v = D - k) ∨ (a = PX ∧ b = PY ∧ c = SX ∧ d = SY ∧ v = e) →
      Calls Try.prog 21 #[.agg #[.int .i16 a, .int .i16 b], .agg #[.int .i16 c, .int .i16 d]] w (Gives (.int .i64 v) w))
    (h4 : ∀ w a b c d v, (a = fx ∧ b = fy ∧ v = M + N ∧ c = QX ∧ d = QY) ∨ (a = PX ∧ b = PY ∧ v = 1 ∧ c = SX ∧ d = SY) →
      Calls Try.prog 24 #[.agg #[.int .i16 a, .int .i16 b], .agg #[.int .i16 tx, .int .i16 ty], .int .i64 v] w (Gives (.agg #[.int .i16 c, .int .i16 d]) w)) :
    Calls Try.prog 12 #[.agg #[.int .i16 fx, .int .i16 fy], .agg #[.int .i16 tx, .int .i16 ty], .int .i64 m, .int .i64 n] w (Gives (.bool true) w) := by
  have K0 := Lib.hid h0
  have K1 := Lib.hid h1
  have K2 := Lib.hid h2
  have K3 := Lib.hid h3
  have K4 := Lib.hid h4
  clear h0 h1 h2 h3 h4
  go_enter Try.func12, Try.ntmps12
  go_wp2_with fail
  refine (K0.out _).mono ?_
  rintro e w' ⟨rfl, z1, rfl⟩
  have q1_0_0 : z1.i.cell? ⟨w.heap.size, 0, none⟩ = some (.int .i16 fx) := by rw [z1.cell (by simp <;> omega)]; simp [go_sem]
  have q1_0_1 : z1.i.cell? ⟨w.heap.size, 1, none⟩ = some (.int .i16 fy) := by rw [z1.cell (by simp <;> omega)]; simp [go_sem]
  have q1_1_0 : z1.i.cell? ⟨w.heap.size + 1, 0, none⟩ = some (.int .i16 tx) := by rw [z1.cell (by simp <;> omega)]; simp [go_sem]
  have q1_1_1 : z1.i.cell? ⟨w.heap.size + 1, 1, none⟩ = some (.int .i16 ty) := by rw [z1.cell (by simp <;> omega)]; simp [go_sem]
  have sz1 := z1.size
  simp at sz1
  have l1_0 : w.heap.size < z1.i.heap.size := by omega
  have l1_1 : w.heap.size + 1 < z1.i.heap.size := by omega
  have bW1 : Below w.heap.size w z1.i := (((Below.refl _ w).alloc (by simp <;> omega) _).alloc (by simp <;> omega) _).trans (z1.h.mono (by simp <;> omega))
  clear sz1
  generalize z1.i = Z1 at *
  clear z1
  go_wp2_with fail
  refine (K1.out _).mono ?_
  rintro e w' ⟨rfl, z2, rfl⟩
  have q2_0_0 : z2.i.cell? ⟨w.heap.size, 0, none⟩ = some (.int .i16 fx) := by rw [z2.cell l1_0]; exact q1_0_0
  have q2_0_1 : z2.i.cell? ⟨w.heap.size, 1, none⟩ = some (.int .i16 fy) := by rw [z2.cell l1_0]; exact q1_0_1
  have q2_1_0 : z2.i.cell? ⟨w.heap.size + 1, 0, none⟩ = some (.int .i16 tx) := by rw [z2.cell l1_1]; exact q1_1_0
  have q2_1_1 : z2.i.cell? ⟨w.heap.size + 1, 1, none⟩ = some (.int .i16 ty) := by rw [z2.cell l1_1]; exact q1_1_1
  have sz2 := z2.size
  have l2_0 : w.heap.size < z2.i.heap.size := by omega
  have l2_1 : w.heap.size + 1 < z2.i.heap.size := by omega
  have bW2 : Below w.heap.size w z2.i := bW1.trans (z2.h.mono bW1.size)
  clear sz2 q1_0_0 q1_0_1 q1_1_0 q1_1_1 l1_0 l1_1 bW1
  generalize z2.i = Z2 at *
  clear z2
  go_wp2_with fail
  refine (K2.out _).mono ?_
  rintro e w' ⟨rfl, z3, rfl⟩
  have q3_0_0 : z3.i.cell? ⟨w.heap.size, 0, none⟩ = some (.int .i16 fx) := by rw [z3.cell (by simp; omega), World.cell?_alloc_lt _ _ _ (by simpa using l2_0)]; exact q2_0_0
  have q3_0_1 : z3.i.cell? ⟨w.heap.size, 1, none⟩ = some (.int .i16 fy) := by rw [z3.cell (by simp; omega), World.cell?_alloc_lt _ _ _ (by simpa using l2_0)]; exact q2_0_1
  have q3_1_0 : z3.i.cell? ⟨w.heap.size + 1, 0, none⟩ = some (.int .i16 tx) := by rw [z3.cell (by simp; omega), World.cell?_alloc_lt _ _ _ (by simpa using l2_1)]; exact q2_1_0
  have q3_1_1 : z3.i.cell? ⟨w.heap.size + 1, 1, none⟩ = some (.int .i16 ty) := by rw [z3.cell (by simp; omega), World.cell?_alloc_lt _ _ _ (by simpa using l2_1)]; exact q2_1_1
  have q3_2_0 : z3.i.cell? ⟨Z2.heap.size, 0, none⟩ = some (.int .i16 PX) := by rw [z3.cell (by simp)]; simp [go_sem]
  have q3_2_1 : z3.i.cell? ⟨Z2.heap.size, 1, none⟩ = some (.int .i16 PY) := by rw [z3.cell (by simp)]; simp [go_sem]
  have sz3 := z3.size
  simp at sz3
  have l3_0 : w.heap.size < z3.i.heap.size := by omega
  have l3_1 : w.heap.size + 1 < z3.i.heap.size := by omega
  have l3_2 : Z2.heap.size < z3.i.heap.size := by omega
  have bW3 : Below w.heap.size w z3.i := (bW2.alloc bW2.size _).trans (z3.h.mono (Nat.le_trans bW2.size (by simp)))
  clear sz3 q2_0_0 q2_0_1 q2_1_0 q2_1_1 l2_0 l2_1 bW2
  generalize Z2.heap.size = b3 at *
  generalize z3.i = Z3 at *
  clear z3
  go_wp2_with fail
  have m0 : w.heap.size < Z3.heap.size + 1 := by omega
  have m1 : w.heap.size + 1 < Z3.heap.size + 1 := by omega
  have m2 : b3 < Z3.heap.size + 1 := by omega
  refine wp_region_bw (Z3.heap.size + 1) _ (Below.refl _ _) (by kernel_rfl) (by kernel_rfl) ?_
  repeat (go_big_quiet_step ((first
    | (go_at_call 21; exact Calls.bw_of (by simp) (K3.out _ _ _ _ _ _ (by first | exact .inl ⟨rfl, rfl, rfl, rfl, rfl⟩ | exact .inr (.inl ⟨rfl, rfl, rfl, rfl, rfl⟩) | exact .inr (.inr ⟨rfl, rfl, rfl, rfl, rfl⟩))))
    | (go_at_call 24; exact Calls.bw_of (by simp) (K4.out _ _ _ _ _ _ (by first | exact .inl ⟨rfl, rfl, rfl, rfl, rfl⟩ | exact .inr ⟨rfl, rfl, rfl, rfl, rfl⟩)))
    | (go_at_call 23; exact Calls.bw_of (by simp) (lives_any _)))))
  refine wpQuiet_nil ?_
  intro x
  go_wp2_with fail
  refine wp_region_bw (Z3.heap.size + 1) _ x.h (by kernel_rfl) (by kernel_rfl) ?_
  repeat (go_big_quiet_step ((first
    | (go_at_call 21; exact Calls.bw_of (by simp) (K3.out _ _ _ _ _ _ (by first | exact .inl ⟨rfl, rfl, rfl, rfl, rfl⟩ | exact .inr (.inl ⟨rfl, rfl, rfl, rfl, rfl⟩) | exact .inr (.inr ⟨rfl, rfl, rfl, rfl, rfl⟩))))
    | (go_at_call 24; exact Calls.bw_of (by simp) (K4.out _ _ _ _ _ _ (by first | exact .inl ⟨rfl, rfl, rfl, rfl, rfl⟩ | exact .inr ⟨rfl, rfl, rfl, rfl, rfl⟩)))
    | (go_at_call 23; exact Calls.bw_of (by simp) (lives_any _)))))
  refine wpQuiet_nil ?_
  intro y
  go_wp2_with fail
  go_ret
  exact gives_of_eq rfl ((bW3.alloc bW3.size _).trans (y.h.mono (Nat.le_succ_of_le bW3.size)))

set_option maxHeartbeats 4000000 in
theorem way_002 (fx fy tx ty m n D M N k e PX PY QX QY SX SY m0 n0 : Int) (w : World) (d1 : 0 ≤ D) (d2 : D ≤ 131070) (dz : ¬ D + 3 = 0) (hm : m.tmod (D + 3) = m0) (hn : n.tmod (D + 3) = n0) (mb : -131073 < m0) (mb' : m0 < 131073) (nb : -131073 < n0) (nb' : n0 < 131073)
    (m1 : ¬ m0 < 0) (m2 : m0 = M) (n1 : ¬ n0 < 0) (n2 : n0 = N) (k1 : ¬ D < M) (k2 : k = M) (k3 : e = 1) (k4 : ¬ D - k < 1) (k5 : M ≤ D) (k6 : 1 ≤ D - k)
    (h0 : ∀ w, Calls Try.prog 21 #[.agg #[.int .i16 fx, .int .i16 fy], .agg #[.int .i16 tx, .int .i16 ty]] w (Gives (.int .i64 D) w))
    (h1 : ∀ w, Calls Try.prog 24 #[.agg #[.int .i16 fx, .int .i16 fy], .agg #[.int .i16 tx, .int .i16 ty], .int .i64 M] w (Gives (.agg #[.int .i16 PX, .int .i16 PY]) w))
    (h2 : ∀ w, Calls Try.prog 24 #[.agg #[.int .i16 PX, .int .i16 PY], .agg #[.int .i16 tx, .int .i16 ty], .int .i64 N] w (Gives (.agg #[.int .i16 QX, .int .i16 QY]) w))
    (h3 : ∀ w a b c d v, (a = fx ∧ b = fy ∧ c = PX ∧ d = PY ∧ v = k) ∨ (a = PX ∧ b = PY ∧ c = tx ∧ d = ty ∧ v = D - k) ∨ (a = PX ∧ b = PY ∧ c = SX ∧ d = SY ∧ v = e) →
      Calls Try.prog 21 #[.agg #[.int .i16 a, .int .i16 b], .agg #[.int .i16 c, .int .i16 d]] w (Gives (.int .i64 v) w))
    (h4 : ∀ w a b c d v, (a = fx ∧ b = fy ∧ v = M + N ∧ c = QX ∧ d = QY) ∨ (a = PX ∧ b = PY ∧ v = 1 ∧ c = SX ∧ d = SY) →
      Calls Try.prog 24 #[.agg #[.int .i16 a, .int .i16 b], .agg #[.int .i16 tx, .int .i16 ty], .int .i64 v] w (Gives (.agg #[.int .i16 c, .int .i16 d]) w)) :
    Calls Try.prog 12 #[.agg #[.int .i16 fx, .int .i16 fy], .agg #[.int .i16 tx, .int .i16 ty], .int .i64 m, .int .i64 n] w (Gives (.bool true) w) := by
  have K0 := Lib.hid h0
  have K1 := Lib.hid h1
  have K2 := Lib.hid h2
  have K3 := Lib.hid h3
  have K4 := Lib.hid h4
  clear h0 h1 h2 h3 h4
  go_enter Try.func12, Try.ntmps12
  go_wp2_with fail
  refine (K0.out _).mono ?_
  rintro e w' ⟨rfl, z1, rfl⟩
  have q1_0_0 : z1.i.cell? ⟨w.heap.size, 0, none⟩ = some (.int .i16 fx) := by rw [z1.cell (by simp <;> omega)]; simp [go_sem]
  have q1_0_1 : z1.i.cell? ⟨w.heap.size, 1, none⟩ = some (.int .i16 fy) := by rw [z1.cell (by simp <;> omega)]; simp [go_sem]
  have q1_1_0 : z1.i.cell? ⟨w.heap.size + 1, 0, none⟩ = some (.int .i16 tx) := by rw [z1.cell (by simp <;> omega)]; simp [go_sem]
  have q1_1_1 : z1.i.cell? ⟨w.heap.size + 1, 1, none⟩ = some (.int .i16 ty) := by rw [z1.cell (by simp <;> omega)]; simp [go_sem]
  have sz1 := z1.size
  simp at sz1
  have l1_0 : w.heap.size < z1.i.heap.size := by omega
  have l1_1 : w.heap.size + 1 < z1.i.heap.size := by omega
  have bW1 : Below w.heap.size w z1.i := (((Below.refl _ w).alloc (by simp <;> omega) _).alloc (by simp <;> omega) _).trans (z1.h.mono (by simp <;> omega))
  clear sz1
  generalize z1.i = Z1 at *
  clear z1
  go_wp2_with fail
  refine (K1.out _).mono ?_
  rintro e w' ⟨rfl, z2, rfl⟩
  have q2_0_0 : z2.i.cell? ⟨w.heap.size, 0, none⟩ = some (.int .i16 fx) := by rw [z2.cell l1_0]; exact q1_0_0
  have q2_0_1 : z2.i.cell? ⟨w.heap.size, 1, none⟩ = some (.int .i16 fy) := by rw [z2.cell l1_0]; exact q1_0_1
  have q2_1_0 : z2.i.cell? ⟨w.heap.size + 1, 0, none⟩ = some (.int .i16 tx) := by rw [z2.cell l1_1]; exact q1_1_0
  have q2_1_1 : z2.i.cell? ⟨w.heap.size + 1, 1, none⟩ = some (.int .i16 ty) := by rw [z2.cell l1_1]; exact q1_1_1
  have sz2 := z2.size
  have l2_0 : w.heap.size < z2.i.heap.size := by omega
  have l2_1 : w.heap.size + 1 < z2.i.heap.size := by omega
  have bW2 : Below w.heap.size w z2.i := bW1.trans (z2.h.mono bW1.size)
  clear sz2 q1_0_0 q1_0_1 q1_1_0 q1_1_1 l1_0 l1_1 bW1
  generalize z2.i = Z2 at *
  clear z2
  go_wp2_with fail
  refine (K2.out _).mono ?_
  rintro e w' ⟨rfl, z3, rfl⟩
  have q3_0_0 : z3.i.cell? ⟨w.heap.size, 0, none⟩ = some (.int .i16 fx) := by rw [z3.cell (by simp; omega), World.cell?_alloc_lt _ _ _ (by simpa using l2_0)]; exact q2_0_0
  have q3_0_1 : z3.i.cell? ⟨w.heap.size, 1, none⟩ = some (.int .i16 fy) := by rw [z3.cell (by simp; omega), World.cell?_alloc_lt _ _ _ (by simpa using l2_0)]; exact q2_0_1
  have q3_1_0 : z3.i.cell? ⟨w.heap.size + 1, 0, none⟩ = some (.int .i16 tx) := by rw [z3.cell (by simp; omega), World.cell?_alloc_lt _ _ _ (by simpa using l2_1)]; exact q2_1_0
  have q3_1_1 : z3.i.cell? ⟨w.heap.size + 1, 1, none⟩ = some (.int .i16 ty) := by rw [z3.cell (by simp; omega), World.cell?_alloc_lt _ _ _ (by simpa using l2_1)]; exact q2_1_1
  have q3_2_0 : z3.i.cell? ⟨Z2.heap.size, 0, none⟩ = some (.int .i16 PX) := by rw [z3.cell (by simp)]; simp [go_sem]
  have q3_2_1 : z3.i.cell? ⟨Z2.heap.size, 1, none⟩ = some (.int .i16 PY) := by rw [z3.cell (by simp)]; simp [go_sem]
  have sz3 := z3.size
  simp at sz3
  have l3_0 : w.heap.size < z3.i.heap.size := by omega
  have l3_1 : w.heap.size + 1 < z3.i.heap.size := by omega
  have l3_2 : Z2.heap.size < z3.i.heap.size := by omega
  have bW3 : Below w.heap.size w z3.i := (bW2.alloc bW2.size _).trans (z3.h.mono (Nat.le_trans bW2.size (by simp)))
  clear sz3 q2_0_0 q2_0_1 q2_1_0 q2_1_1 l2_0 l2_1 bW2
  generalize Z2.heap.size = b3 at *
  generalize z3.i = Z3 at *
  clear z3
  go_wp2_with fail
  have m0 : w.heap.size < Z3.heap.size + 1 := by omega
  have m1 : w.heap.size + 1 < Z3.heap.size + 1 := by omega
  have m2 : b3 < Z3.heap.size + 1 := by omega
  refine wp_region_bw (Z3.heap.size + 1) _ (Below.refl _ _) (by kernel_rfl) (by kernel_rfl) ?_
  repeat (go_big_quiet_step ((first
    | (go_at_call 21; exact Calls.bw_of (by simp) (K3.out _ _ _ _ _ _ (by first | exact .inl ⟨rfl, rfl, rfl, rfl, rfl⟩ | exact .inr (.inl ⟨rfl, rfl, rfl, rfl, rfl⟩) | exact .inr (.inr ⟨rfl, rfl, rfl, rfl, rfl⟩))))
    | (go_at_call 24; exact Calls.bw_of (by simp) (K4.out _ _ _ _ _ _ (by first | exact .inl ⟨rfl, rfl, rfl, rfl, rfl⟩ | exact .inr ⟨rfl, rfl, rfl, rfl, rfl⟩)))
    | (go_at_call 23; exact Calls.bw_of (by simp) (lives_any _)))))
  refine wpQuiet_nil ?_
  intro x
  go_wp2_with fail
  refine wp_region_bw (Z3.heap.size + 1) _ x.h (by kernel_rfl) (by kernel_rfl) ?_
  repeat (go_big_quiet_step ((first
    | (go_at_call 21; exact Calls.bw_of (by simp) (K3.out _ _ _ _ _ _ (by first | exact .inl ⟨rfl, rfl, rfl, rfl, rfl⟩ | exact .inr (.inl ⟨rfl, rfl, rfl, rfl, rfl⟩) | exact .inr (.inr ⟨rfl, rfl, rfl, rfl, rfl⟩))))
    | (go_at_call 24; exact Calls.bw_of (by simp) (K4.out _ _ _ _ _ _ (by first | exact .inl ⟨rfl, rfl, rfl, rfl, rfl⟩ | exact .inr ⟨rfl, rfl, rfl, rfl, rfl⟩)))
    | (go_at_call 23; exact Calls.bw_of (by simp) (lives_any _)))))
  refine wpQuiet_nil ?_
  intro y
  go_wp2_with fail
  go_ret
  exact gives_of_eq rfl ((bW3.alloc bW3.size _).trans (y.h.mono (Nat.le_succ_of_le bW3.size)))

set_option maxHeartbeats 4000000 in
theorem way_010 (fx fy tx ty m n D M N k e PX PY QX QY SX SY m0 n0 : Int) (w : World) (d1 : 0 ≤ D) (d2 : D ≤ 131070) (dz : ¬ D + 3 = 0) (hm : m.tmod (D + 3) = m0) (hn : n.tmod (D + 3) = n0) (mb : -131073 < m0) (mb' : m0 < 131073) (nb : -131073 < n0) (nb' : n0 < 131073)
    (m1 : ¬ m0 < 0) (m2 : m0 = M) (n1 : n0 < 0) (n2 : -n0 = N) (k1 : D < M) (k2 : k = D) (k3 : e = D - k) (k4 : D - k < 1) (k5 : ¬ M ≤ D) (k6 : 0 ≤ D - k)
    (h0 : ∀ w, Calls Try.prog 21 #[.agg #[.int .i16 fx, .int .i16 fy], .agg #[.int .i16 tx, .int .i16 ty]] w (Gives (.int .i64 D) w))
    (h1 : ∀ w, Calls Try.prog 24 #[.agg #[.int .i16 fx, .int .i16 fy], .agg #[.int .i16 tx, .int .i16 ty], .int .i64 M] w (Gives (.agg #[.int .i16 PX, .int .i16 PY]) w))
    (h2 : ∀ w, Calls Try.prog 24 #[.agg #[.int .i16 PX, .int .i16 PY], .agg #[.int .i16 tx, .int .i16 ty], .int .i64 N] w (Gives (.agg #[.int .i16 QX, .int .i16 QY]) w))
    (h3 : ∀ w a b c d v, (a = fx ∧ b = fy ∧ c = PX ∧ d = PY ∧ v = k) ∨ (a = PX ∧ b = PY ∧ c = tx ∧ d = ty ∧ v = D - k) ∨ (a = PX ∧ b = PY ∧ c = SX ∧ d = SY ∧ v = e) →
      Calls Try.prog 21 #[.agg #[.int .i16 a, .int .i16 b], .agg #[.int .i16 c, .int .i16 d]] w (Gives (.int .i64 v) w))
    (h4 : ∀ w a b c d v, (a = fx ∧ b = fy ∧ v = M + N ∧ c = QX ∧ d = QY) ∨ (a = PX ∧ b = PY ∧ v = 1 ∧ c = SX ∧ d = SY) →
      Calls Try.prog 24 #[.agg #[.int .i16 a, .int .i16 b], .agg #[.int .i16 tx, .int .i16 ty], .int .i64 v] w (Gives (.agg #[.int .i16 c, .int .i16 d]) w)) :
    Calls Try.prog 12 #[.agg #[.int .i16 fx, .int .i16 fy], .agg #[.int .i16 tx, .int .i16 ty], .int .i64 m, .int .i64 n] w (Gives (.bool true) w) := by
  have K0 := Lib.hid h0
  have K1 := Lib.hid h1
  have K2 := Lib.hid h2
  have K3 := Lib.hid h3
  have K4 := Lib.hid h4
  clear h0 h1 h2 h3 h4
  go_enter Try.func12, Try.ntmps12
  go_wp2_with fail
  refine (K0.out _).mono ?_
  rintro e w' ⟨rfl, z1, rfl⟩
  have q1_0_0 : z1.i.cell? ⟨w.heap.size, 0, none⟩ = some (.int .i16 fx) := by rw [z1.cell (by simp <;> omega)]; simp [go_sem]
  have q1_0_1 : z1.i.cell? ⟨w.heap.size, 1, none⟩ = some (.int .i16 fy) := by rw [z1.cell (by simp <;> omega)]; simp [go_sem]
  have q1_1_0 : z1.i.cell? ⟨w.heap.size + 1, 0, none⟩ = some (.int .i16 tx) := by rw [z1.cell (by simp <;> omega)]; simp [go_sem]
  have q1_1_1 : z1.i.cell? ⟨w.heap.size + 1, 1, none⟩ = some (.int .i16 ty) := by rw [z1.cell (by simp <;> omega)]; simp [go_sem]
  have sz1 := z1.size
  simp at sz1
  have l1_0 : w.heap.size < z1.i.heap.size := by omega
  have l1_1 : w.heap.size + 1 < z1.i.heap.size := by omega
  have bW1 : Below w.heap.size w z1.i := (((Below.refl _ w).alloc (by simp <;> omega) _).alloc (by simp <;> omega) _).trans (z1.h.mono (by simp <;> omega))
  clear sz1
  generalize z1.i = Z1 at *
  clear z1
  go_wp2_with fail
  refine (K1.out _).mono ?_
  rintro e w' ⟨rfl, z2, rfl⟩
  have q2_0_0 : z2.i.cell? ⟨w.heap.size, 0, none⟩ = some (.int .i16 fx) := by rw [z2.cell l1_0]; exact q1_0_0
  have q2_0_1 : z2.i.cell? ⟨w.heap.size, 1, none⟩ = some (.int .i16 fy) := by rw [z2.cell l1_0]; exact q1_0_1
  have q2_1_0 : z2.i.cell? ⟨w.heap.size + 1, 0, none⟩ = some (.int .i16 tx) := by rw [z2.cell l1_1]; exact q1_1_0
  have q2_1_1 : z2.i.cell? ⟨w.heap.size + 1, 1, none⟩ = some (.int .i16 ty) := by rw [z2.cell l1_1]; exact q1_1_1
  have sz2 := z2.size
  have l2_0 : w.heap.size < z2.i.heap.size := by omega
  have l2_1 : w.heap.size + 1 < z2.i.heap.size := by omega
  have bW2 : Below w.heap.size w z2.i := bW1.trans (z2.h.mono bW1.size)
  clear sz2 q1_0_0 q1_0_1 q1_1_0 q1_1_1 l1_0 l1_1 bW1
  generalize z2.i = Z2 at *
  clear z2
  go_wp2_with fail
  refine (K2.out _).mono ?_
  rintro e w' ⟨rfl, z3, rfl⟩
  have q3_0_0 : z3.i.cell? ⟨w.heap.size, 0, none⟩ = some (.int .i16 fx) := by rw [z3.cell (by simp; omega), World.cell?_alloc_lt _ _ _ (by simpa using l2_0)]; exact q2_0_0
  have q3_0_1 : z3.i.cell? ⟨w.heap.size, 1, none⟩ = some (.int .i16 fy) := by rw [z3.cell (by simp; omega), World.cell?_alloc_lt _ _ _ (by simpa using l2_0)]; exact q2_0_1
  have q3_1_0 : z3.i.cell? ⟨w.heap.size + 1, 0, none⟩ = some (.int .i16 tx) := by rw [z3.cell (by simp; omega), World.cell?_alloc_lt _ _ _ (by simpa using l2_1)]; exact q2_1_0
  have q3_1_1 : z3.i.cell? ⟨w.heap.size + 1, 1, none⟩ = some (.int .i16 ty) := by rw [z3.cell (by simp; omega), World.cell?_alloc_lt _ _ _ (by simpa using l2_1)]; exact q2_1_1
  have q3_2_0 : z3.i.cell? ⟨Z2.heap.size, 0, none⟩ = some (.int .i16 PX) := by rw [z3.cell (by simp)]; simp [go_sem]
  have q3_2_1 : z3.i.cell? ⟨Z2.heap.size, 1, none⟩ = some (.int .i16 PY) := by rw [z3.cell (by simp)]; simp [go_sem]
  have sz3 := z3.size
  simp at sz3
  have l3_0 : w.heap.size < z3.i.heap.size := by omega
  have l3_1 : w.heap.size + 1 < z3.i.heap.size := by omega
  have l3_2 : Z2.heap.size < z3.i.heap.size := by omega
  have bW3 : Below w.heap.size w z3.i := (bW2.alloc bW2.size _).trans (z3.h.mono (Nat.le_trans bW2.size (by simp)))
  clear sz3 q2_0_0 q2_0_1 q2_1_0 q2_1_1 l2_0 l2_1 bW2
  generalize Z2.heap.size = b3 at *
  generalize z3.i = Z3 at *
  clear z3
  go_wp2_with fail
  have m0 : w.heap.size < Z3.heap.size + 1 := by omega
  have m1 : w.heap.size + 1 < Z3.heap.size + 1 := by omega
  have m2 : b3 < Z3.heap.size + 1 := by omega
  refine wp_region_bw (Z3.heap.size + 1) _ (Below.refl _ _) (by kernel_rfl) (by kernel_rfl) ?_
  repeat (go_big_quiet_step ((first
    | (go_at_call 21; exact Calls.bw_of (by simp) (K3.out _ _ _ _ _ _ (by first | exact .inl ⟨rfl, rfl, rfl, rfl, rfl⟩ | exact .inr (.inl ⟨rfl, rfl, rfl, rfl, rfl⟩) | exact .inr (.inr ⟨rfl, rfl, rfl, rfl, rfl⟩))))
    | (go_at_call 24; exact Calls.bw_of (by simp) (K4.out _ _ _ _ _ _ (by first | exact .inl ⟨rfl, rfl, rfl, rfl, rfl⟩ | exact .inr ⟨rfl, rfl, rfl, rfl, rfl⟩)))
    | (go_at_call 23; exact Calls.bw_of (by simp) (lives_any _)))))
  refine wpQuiet_nil ?_
  intro x
  go_wp2_with fail
  refine wp_region_bw (Z3.heap.size + 1) _ x.h (by kernel_rfl) (by kernel_rfl) ?_
  repeat (go_big_quiet_step ((first
    | (go_at_call 21; exact Calls.bw_of (by simp) (K3.out _ _ _ _ _ _ (by first | exact .inl ⟨rfl, rfl, rfl, rfl, rfl⟩ | exact .inr (.inl ⟨rfl, rfl, rfl, rfl, rfl⟩) | exact .inr (.inr ⟨rfl, rfl, rfl, rfl, rfl⟩))))
    | (go_at_call 24; exact Calls.bw_of (by simp) (K4.out _ _ _ _ _ _ (by first | exact .inl ⟨rfl, rfl, rfl, rfl, rfl⟩ | exact .inr ⟨rfl, rfl, rfl, rfl, rfl⟩)))
    | (go_at_call 23; exact Calls.bw_of (by simp) (lives_any _)))))
  refine wpQuiet_nil ?_
  intro y
  go_wp2_with fail
  go_ret
  exact gives_of_eq rfl ((bW3.alloc bW3.size _).trans (y.h.mono (Nat.le_succ_of_le bW3.size)))

set_option maxHeartbeats 4000000 in
theorem way_011 (fx fy tx ty m n D M N k e PX PY QX QY SX SY m0 n0 : Int) (w : World) (d1 : 0 ≤ D) (d2 : D ≤ 131070) (dz : ¬ D + 3 = 0) (hm : m.tmod (D + 3) = m0) (hn : n.tmod (D + 3) = n0) (mb : -131073 < m0) (mb' : m0 < 131073) (nb : -131073 < n0) (nb' : n0 < 131073)
    (m1 : ¬ m0 < 0) (m2 : m0 = M) (n1 : n0 < 0) (n2 : -n0 = N) (k1 : ¬ D < M) (k2 : k = M) (k3 : e = D - k) (k4 : D - k < 1) (k5 : M ≤ D) (k6 : 0 ≤ D - k)
    (h0 : ∀ w, Calls Try.prog 21 #[.agg #[.int .i16 fx, .int .i16 fy], .agg #[.int .i16 tx, .int .i16 ty]] w (Gives (.int .i64 D) w))
    (h1 : ∀ w, Calls Try.prog 24 #[.agg #[.int .i16 fx, .int .i16 fy], .agg #[.int .i16 tx, .int .i16 ty], .int .i64 M] w (Gives (.agg #[.int .i16 PX, .int .i16 PY]) w))
    (h2 : ∀ w, Calls Try.prog 24 #[.agg #[.int .i16 PX, .int .i16 PY], .agg #[.int .i16 tx, .int .i16 ty], .int .i64 N] w (Gives (.agg #[.int .i16 QX, .int .i16 QY]) w))
    (h3 : ∀ w a b c d v, (a = fx ∧ b = fy ∧ c = PX ∧ d = PY ∧ v = k) ∨ (a = PX ∧ b = PY ∧ c = tx ∧ d = ty ∧ v = D - k) ∨ (a = PX ∧ b = PY ∧ c = SX ∧ d = SY ∧ v = e) →
      Calls Try.prog 21 #[.agg #[.int .i16 a, .int .i16 b], .agg #[.int .i16 c, .int .i16 d]] w (Gives (.int .i64 v) w))
    (h4 : ∀ w a b c d v, (a = fx ∧ b = fy ∧ v = M + N ∧ c = QX ∧ d = QY) ∨ (a = PX ∧ b = PY ∧ v = 1 ∧ c = SX ∧ d = SY) →
      Calls Try.prog 24 #[.agg #[.int .i16 a, .int .i16 b], .agg #[.int .i16 tx, .int .i16 ty], .int .i64 v] w (Gives (.agg #[.int .i16 c, .int .i16 d]) w)) :
    Calls Try.prog 12 #[.agg #[.int .i16 fx, .int .i16 fy], .agg #[.int .i16 tx, .int .i16 ty], .int .i64 m, .int .i64 n] w (Gives (.bool true) w) := by
  have K0 := Lib.hid h0
  have K1 := Lib.hid h1
  have K2 := Lib.hid h2
  have K3 := Lib.hid h3
  have K4 := Lib.hid h4
  clear h0 h1 h2 h3 h4
  go_enter Try.func12, Try.ntmps12
  go_wp2_with fail
  refine (K0.out _).mono ?_
  rintro e w' ⟨rfl, z1, rfl⟩
  have q1_0_0 : z1.i.cell? ⟨w.heap.size, 0, none⟩ = some (.int .i16 fx) := by rw [z1.cell (by simp <;> omega)]; simp [go_sem]
  have q1_0_1 : z1.i.cell? ⟨w.heap.size, 1, none⟩ = some (.int .i16 fy) := by rw [z1.cell (by simp <;> omega)]; simp [go_sem]
  have q1_1_0 : z1.i.cell? ⟨w.heap.size + 1, 0, none⟩ = some (.int .i16 tx) := by rw [z1.cell (by simp <;> omega)]; simp [go_sem]
  have q1_1_1 : z1.i.cell? ⟨w.heap.size + 1, 1, none⟩ = some (.int .i16 ty) := by rw [z1.cell (by simp <;> omega)]; simp [go_sem]
  have sz1 := z1.size
  simp at sz1
  have l1_0 : w.heap.size < z1.i.heap.size := by omega
  have l1_1 : w.heap.size + 1 < z1.i.heap.size := by omega
  have bW1 : Below w.heap.size w z1.i := (((Below.refl _ w).alloc (by simp <;> omega) _).alloc (by simp <;> omega) _).trans (z1.h.mono (by simp <;> omega))
  clear sz1
  generalize z1.i = Z1 at *
  clear z1
  go_wp2_with fail
  refine (K1.out _).mono ?_
  rintro e w' ⟨rfl, z2, rfl⟩
  have q2_0_0 : z2.i.cell? ⟨w.heap.size, 0, none⟩ = some (.int .i16 fx) := by rw [z2.cell l1_0]; exact q1_0_0
  have q2_0_1 : z2.i.cell? ⟨w.heap.size, 1, none⟩ = some (.int .i16 fy) := by rw [z2.cell l1_0]; exact q1_0_1
  have q2_1_0 : z2.i.cell? ⟨w.heap.size + 1, 0, none⟩ = some (.int .i16 tx) := by rw [z2.cell l1_1]; exact q1_1_0
  have q2_1_1 : z2.i.cell? ⟨w.heap.size + 1, 1, none⟩ = some (.int .i16 ty) := by rw [z2.cell l1_1]; exact q1_1_1
  have sz2 := z2.size
  have l2_0 : w.heap.size < z2.i.heap.size := by omega
  have l2_1 : w.heap.size + 1 < z2.i.heap.size := by omega
  have bW2 : Below w.heap.size w z2.i := bW1.trans (z2.h.mono bW1.size)
  clear sz2 q1_0_0 q1_0_1 q1_1_0 q1_1_1 l1_0 l1_1 bW1
  generalize z2.i = Z2 at *
  clear z2
  go_wp2_with fail
  refine (K2.out _).mono ?_
  rintro e w' ⟨rfl, z3, rfl⟩
  have q3_0_0 : z3.i.cell? ⟨w.heap.size, 0, none⟩ = some (.int .i16 fx) := by rw [z3.cell (by simp; omega), World.cell?_alloc_lt _ _ _ (by simpa using l2_0)]; exact q2_0_0
  have q3_0_1 : z3.i.cell? ⟨w.heap.size, 1, none⟩ = some (.int .i16 fy) := by rw [z3.cell (by simp; omega), World.cell?_alloc_lt _ _ _ (by simpa using l2_0)]; exact q2_0_1
  have q3_1_0 : z3.i.cell? ⟨w.heap.size + 1, 0, none⟩ = some (.int .i16 tx) := by rw [z3.cell (by simp; omega), World.cell?_alloc_lt _ _ _ (by simpa using l2_1)]; exact q2_1_0
  have q3_1_1 : z3.i.cell? ⟨w.heap.size + 1, 1, none⟩ = some (.int .i16 ty) := by rw [z3.cell (by simp; omega), World.cell?_alloc_lt _ _ _ (by simpa using l2_1)]; exact q2_1_1
  have q3_2_0 : z3.i.cell? ⟨Z2.heap.size, 0, none⟩ = some (.int .i16 PX) := by rw [z3.cell (by simp)]; simp [go_sem]
  have q3_2_1 : z3.i.cell? ⟨Z2.heap.size, 1, none⟩ = some (.int .i16 PY) := by rw [z3.cell (by simp)]; simp [go_sem]
  have sz3 := z3.size
  simp at sz3
  have l3_0 : w.heap.size < z3.i.heap.size := by omega
  have l3_1 : w.heap.size + 1 < z3.i.heap.size := by omega
  have l3_2 : Z2.heap.size < z3.i.heap.size := by omega
  have bW3 : Below w.heap.size w z3.i := (bW2.alloc bW2.size _).trans (z3.h.mono (Nat.le_trans bW2.size (by simp)))
  clear sz3 q2_0_0 q2_0_1 q2_1_0 q2_1_1 l2_0 l2_1 bW2
  generalize Z2.heap.size = b3 at *
  generalize z3.i = Z3 at *
  clear z3
  go_wp2_with fail
  have m0 : w.heap.size < Z3.heap.size + 1 := by omega
  have m1 : w.heap.size + 1 < Z3.heap.size + 1 := by omega
  have m2 : b3 < Z3.heap.size + 1 := by omega
  refine wp_region_bw (Z3.heap.size + 1) _ (Below.refl _ _) (by kernel_rfl) (by kernel_rfl) ?_
  repeat (go_big_quiet_step ((first
    | (go_at_call 21; exact Calls.bw_of (by simp) (K3.out _ _ _ _ _ _ (by first | exact .inl ⟨rfl, rfl, rfl, rfl, rfl⟩ | exact .inr (.inl ⟨rfl, rfl, rfl, rfl, rfl⟩) | exact .inr (.inr ⟨rfl, rfl, rfl, rfl, rfl⟩))))
    | (go_at_call 24; exact Calls.bw_of (by simp) (K4.out _ _ _ _ _ _ (by first | exact .inl ⟨rfl, rfl, rfl, rfl, rfl⟩ | exact .inr ⟨rfl, rfl, rfl, rfl, rfl⟩)))
    | (go_at_call 23; exact Calls.bw_of (by simp) (lives_any _)))))
  refine wpQuiet_nil ?_
  intro x
  go_wp2_with fail
  refine wp_region_bw (Z3.heap.size + 1) _ x.h (by kernel_rfl) (by kernel_rfl) ?_
  repeat (go_big_quiet_step ((first
    | (go_at_call 21; exact Calls.bw_of (by simp) (K3.out _ _ _ _ _ _ (by first | exact .inl ⟨rfl, rfl, rfl, rfl, rfl⟩ | exact .inr (.inl ⟨rfl, rfl, rfl, rfl, rfl⟩) | exact .inr (.inr ⟨rfl, rfl, rfl, rfl, rfl⟩))))
    | (go_at_call 24; exact Calls.bw_of (by simp) (K4.out _ _ _ _ _ _ (by first | exact .inl ⟨rfl, rfl, rfl, rfl, rfl⟩ | exact .inr ⟨rfl, rfl, rfl, rfl, rfl⟩)))
    | (go_at_call 23; exact Calls.bw_of (by simp) (lives_any _)))))
  refine wpQuiet_nil ?_
  intro y
  go_wp2_with fail
  go_ret
  exact gives_of_eq rfl ((bW3.alloc bW3.size _).trans (y.h.mono (Nat.le_succ_of_le bW3.size)))

set_option maxHeartbeats 4000000 in
theorem way_012 (fx fy tx ty m n D M N k e PX PY QX QY SX SY m0 n0 : Int) (w : World) (d1 : 0 ≤ D) (d2 : D ≤ 131070) (dz : ¬ D + 3 = 0) (hm : m.tmod (D + 3) = m0) (hn : n.tmod (D + 3) = n0) (mb : -131073 < m0) (mb' : m0 < 131073) (nb : -131073 < n0) (nb' : n0 < 131073)
    (m1 : ¬ m0 < 0) (m2 : m0 = M) (n1 : n0 < 0) (n2 : -n0 = N) (k1 : ¬ D < M) (k2 : k = M) (k3 : e = 1) (k4 : ¬ D - k < 1) (k5 : M ≤ D) (k6 : 1 ≤ D - k)
    (h0 : ∀ w, Calls Try.prog 21 #[.agg #[.int .i16 fx, .int .i16 fy], .agg #[.int .i16 tx, .int .i16 ty]] w (Gives (.int .i64 D) w))
    (h1 : ∀ w, Calls Try.prog 24 #[.agg #[.int .i16 fx, .int .i16 fy], .agg #[.int .i16 tx, .int .i16 ty], .int .i64 M] w (Gives (.agg #[.int .i16 PX, .int .i16 PY]) w))
    (h2 : ∀ w, Calls Try.prog 24 #[.agg #[.int .i16 PX, .int .i16 PY], .agg #[.int .i16 tx, .int .i16 ty], .int .i64 N] w (Gives (.agg #[.int .i16 QX, .int .i16 QY]) w))
    (h3 : ∀ w a b c d v, (a = fx ∧ b = fy ∧ c = PX ∧ d = PY ∧ v = k) ∨ (a = PX ∧ b = PY ∧ c = tx ∧ d = ty ∧ v = D - k) ∨ (a = PX ∧ b = PY ∧ c = SX ∧ d = SY ∧ v = e) →
      Calls Try.prog 21 #[.agg #[.int .i16 a, .int .i16 b], .agg #[.int .i16 c, .int .i16 d]] w (Gives (.int .i64 v) w))
    (h4 : ∀ w a b c d v, (a = fx ∧ b = fy ∧ v = M + N ∧ c = QX ∧ d = QY) ∨ (a = PX ∧ b = PY ∧ v = 1 ∧ c = SX ∧ d = SY) →
      Calls Try.prog 24 #[.agg #[.int .i16 a, .int .i16 b], .agg #[.int .i16 tx, .int .i16 ty], .int .i64 v] w (Gives (.agg #[.int .i16 c, .int .i16 d]) w)) :
    Calls Try.prog 12 #[.agg #[.int .i16 fx, .int .i16 fy], .agg #[.int .i16 tx, .int .i16 ty], .int .i64 m, .int .i64 n] w (Gives (.bool true) w) := by
  have K0 := Lib.hid h0
  have K1 := Lib.hid h1
  have K2 := Lib.hid h2
  have K3 := Lib.hid h3
  have K4 := Lib.hid h4
  clear h0 h1 h2 h3 h4
  go_enter Try.func12, Try.ntmps12
  go_wp2_with fail
  refine (K0.out _).mono ?_
  rintro e w' ⟨rfl, z1, rfl⟩
  have q1_0_0 : z1.i.cell? ⟨w.heap.size, 0, none⟩ = some (.int .i16 fx) := by rw [z1.cell (by simp <;> omega)]; simp [go_sem]
  have q1_0_1 : z1.i.cell? ⟨w.heap.size, 1, none⟩ = some (.int .i16 fy) := by rw [z1.cell (by simp <;> omega)]; simp [go_sem]
  have q1_1_0 : z1.i.cell? ⟨w.heap.size + 1, 0, none⟩ = some (.int .i16 tx) := by rw [z1.cell (by simp <;> omega)]; simp [go_sem]
  have q1_1_1 : z1.i.cell? ⟨w.heap.size + 1, 1, none⟩ = some (.int .i16 ty) := by rw [z1.cell (by simp <;> omega)]; simp [go_sem]
  have sz1 := z1.size
  simp at sz1
  have l1_0 : w.heap.size < z1.i.heap.size := by omega
  have l1_1 : w.heap.size + 1 < z1.i.heap.size := by omega
  have bW1 : Below w.heap.size w z1.i := (((Below.refl _ w).alloc (by simp <;> omega) _).alloc (by simp <;> omega) _).trans (z1.h.mono (by simp <;> omega))
  clear sz1
  generalize z1.i = Z1 at *
  clear z1
  go_wp2_with fail
  refine (K1.out _).mono ?_
  rintro e w' ⟨rfl, z2, rfl⟩
  have q2_0_0 : z2.i.cell? ⟨w.heap.size, 0, none⟩ = some (.int .i16 fx) := by rw [z2.cell l1_0]; exact q1_0_0
  have q2_0_1 : z2.i.cell? ⟨w.heap.size, 1, none⟩ = some (.int .i16 fy) := by rw [z2.cell l1_0]; exact q1_0_1
  have q2_1_0 : z2.i.cell? ⟨w.heap.size + 1, 0, none⟩ = some (.int .i16 tx) := by rw [z2.cell l1_1]; exact q1_1_0
  have q2_1_1 : z2.i.cell? ⟨w.heap.size + 1, 1, none⟩ = some (.int .i16 ty) := by rw [z2.cell l1_1]; exact q1_1_1
  have sz2 := z2.size
  have l2_0 : w.heap.size < z2.i.heap.size := by omega
  have l2_1 : w.heap.size + 1 < z2.i.heap.size := by omega
  have bW2 : Below w.heap.size w z2.i := bW1.trans (z2.h.mono bW1.size)
  clear sz2 q1_0_0 q1_0_1 q1_1_0 q1_1_1 l1_0 l1_1 bW1
  generalize z2.i = Z2 at *
  clear z2
  go_wp2_with fail
  refine (K2.out _).mono ?_
  rintro e w' ⟨rfl, z3, rfl⟩
  have q3_0_0 : z3.i.cell? ⟨w.heap.size, 0, none⟩ = some (.int .i16 fx) := by rw [z3.cell (by simp; omega), World.cell?_alloc_lt _ _ _ (by simpa using l2_0)]; exact q2_0_0
  have q3_0_1 : z3.i.cell? ⟨w.heap.size, 1, none⟩ = some (.int .i16 fy) := by rw [z3.cell (by simp; omega), World.cell?_alloc_lt _ _ _ (by simpa using l2_0)]; exact q2_0_1
  have q3_1_0 : z3.i.cell? ⟨w.heap.size + 1, 0, none⟩ = some (.int .i16 tx) := by rw [z3.cell (by simp; omega), World.cell?_alloc_lt _ _ _ (by simpa using l2_1)]; exact q2_1_0
  have q3_1_1 : z3.i.cell? ⟨w.heap.size + 1, 1, none⟩ = some (.int .i16 ty) := by rw [z3.cell (by simp; omega), World.cell?_alloc_lt _ _ _ (by simpa using l2_1)]; exact q2_1_1
  have q3_2_0 : z3.i.cell? ⟨Z2.heap.size, 0, none⟩ = some (.int .i16 PX) := by rw [z3.cell (by simp)]; simp [go_sem]
  have q3_2_1 : z3.i.cell? ⟨Z2.heap.size, 1, none⟩ = some (.int .i16 PY) := by rw [z3.cell (by simp)]; simp [go_sem]
  have sz3 := z3.size
  simp at sz3
  have l3_0 : w.heap.size < z3.i.heap.size := by omega
  have l3_1 : w.heap.size + 1 < z3.i.heap.size := by omega
  have l3_2 : Z2.heap.size < z3.i.heap.size := by omega
  have bW3 : Below w.heap.size w z3.i := (bW2.alloc bW2.size _).trans (z3.h.mono (Nat.le_trans bW2.size (by simp)))
  clear sz3 q2_0_0 q2_0_1 q2_1_0 q2_1_1 l2_0 l2_1 bW2
  generalize Z2.heap.size = b3 at *
  generalize z3.i = Z3 at *
  clear z3
  go_wp2_with fail
  have m0 : w.heap.size < Z3.heap.size + 1 := by omega
  have m1 : w.heap.size + 1 < Z3.heap.size + 1 := by omega
  have m2 : b3 < Z3.heap.size + 1 := by omega
  refine wp_region_bw (Z3.heap.size + 1) _ (Below.refl _ _) (by kernel_rfl) (by kernel_rfl) ?_
  repeat (go_big_quiet_step ((first
    | (go_at_call 21; exact Calls.bw_of (by simp) (K3.out _ _ _ _ _ _ (by first | exact .inl ⟨rfl, rfl, rfl, rfl, rfl⟩ | exact .inr (.inl ⟨rfl, rfl, rfl, rfl, rfl⟩) | exact .inr (.inr ⟨rfl, rfl, rfl, rfl, rfl⟩))))
    | (go_at_call 24; exact Calls.bw_of (by simp) (K4.out _ _ _ _ _ _ (by first | exact .inl ⟨rfl, rfl, rfl, rfl, rfl⟩ | exact .inr ⟨rfl, rfl, rfl, rfl, rfl⟩)))
    | (go_at_call 23; exact Calls.bw_of (by simp) (lives_any _)))))
  refine wpQuiet_nil ?_
  intro x
  go_wp2_with fail
  refine wp_region_bw (Z3.heap.size + 1) _ x.h (by kernel_rfl) (by kernel_rfl) ?_
  repeat (go_big_quiet_step ((first
    | (go_at_call 21; exact Calls.bw_of (by simp) (K3.out _ _ _ _ _ _ (by first | exact .inl ⟨rfl, rfl, rfl, rfl, rfl⟩ | exact .inr (.inl ⟨rfl, rfl, rfl, rfl, rfl⟩) | exact .inr (.inr ⟨rfl, rfl, rfl, rfl, rfl⟩))))
    | (go_at_call 24; exact Calls.bw_of (by simp) (K4.out _ _ _ _ _ _ (by first | exact .inl ⟨rfl, rfl, rfl, rfl, rfl⟩ | exact .inr ⟨rfl, rfl, rfl, rfl, rfl⟩)))
    | (go_at_call 23; exact Calls.bw_of (by simp) (lives_any _)))))
  refine wpQuiet_nil ?_
  intro y
  go_wp2_with fail
  go_ret
  exact gives_of_eq rfl ((bW3.alloc bW3.size _).trans (y.h.mono (Nat.le_succ_of_le bW3.size)))

set_option maxHeartbeats 4000000 in
theorem way_100 (fx fy tx ty m n D M N k e PX PY QX QY SX SY m0 n0 : Int) (w : World) (d1 : 0 ≤ D) (d2 : D ≤ 131070) (dz : ¬ D + 3 = 0) (hm : m.tmod (D + 3) = m0) (hn : n.tmod (D + 3) = n0) (mb : -131073 < m0) (mb' : m0 < 131073) (nb : -131073 < n0) (nb' : n0 < 131073)
    (m1 : m0 < 0) (m2 : -m0 = M) (n1 : ¬ n0 < 0) (n2 : n0 = N) (k1 : D < M) (k2 : k = D) (k3 : e = D - k) (k4 : D - k < 1) (k5 : ¬ M ≤ D) (k6 : 0 ≤ D - k)
    (h0 : ∀ w, Calls Try.prog 21 #[.agg #[.int .i16 fx, .int .i16 fy], .agg #[.int .i16 tx, .int .i16 ty]] w (Gives (.int .i64 D) w))
    (h1 : ∀ w, Calls Try.prog 24 #[.agg #[.int .i16 fx, .int .i16 fy], .agg #[.int .i16 tx, .int .i16 ty], .int .i64 M] w (Gives (.agg #[.int .i16 PX, .int .i16 PY]) w))
    (h2 : ∀ w, Calls Try.prog 24 #[.agg #[.int .i16 PX, .int .i16 PY], .agg #[.int .i16 tx, .int .i16 ty], .int .i64 N] w (Gives (.agg #[.int .i16 QX, .int .i16 QY]) w))
    (h3 : ∀ w a b c d v, (a = fx ∧ b = fy ∧ c = PX ∧ d = PY ∧ v = k) ∨ (a = PX ∧ b = PY ∧ c = tx ∧ d = ty ∧ v = D - k) ∨ (a = PX ∧ b = PY ∧ c = SX ∧ d = SY ∧ v = e) →
      Calls Try.prog 21 #[.agg #[.int .i16 a, .int .i16 b], .agg #[.int .i16 c, .int .i16 d]] w (Gives (.int .i64 v) w))
    (h4 : ∀ w a b c d v, (a = fx ∧ b = fy ∧ v = M + N ∧ c = QX ∧ d = QY) ∨ (a = PX ∧ b = PY ∧ v = 1 ∧ c = SX ∧ d = SY) →
      Calls Try.prog 24 #[.agg #[.int .i16 a, .int .i16 b], .agg #[.int .i16 tx, .int .i16 ty], .int .i64 v] w (Gives (.agg #[.int .i16 c, .int .i16 d]) w)) :
    Calls Try.prog 12 #[.agg #[.int .i16 fx, .int .i16 fy], .agg #[.int .i16 tx, .int .i16 ty], .int .i64 m, .int .i64 n] w (Gives (.bool true) w) := by
  have K0 := Lib.hid h0
  have K1 := Lib.hid h1
  have K2 := Lib.hid h2
  have K3 := Lib.hid h3
  have K4 := Lib.hid h4
  clear h0 h1 h2 h3 h4
  go_enter Try.func12, Try.ntmps12
  go_wp2_with fail
  refine (K0.out _).mono ?_
  rintro e w' ⟨rfl, z1, rfl⟩
  have q1_0_0 : z1.i.cell? ⟨w.heap.size, 0, none⟩ = some (.int .i16 fx) := by rw [z1.cell (by simp <;> omega)]; simp [go_sem]
  have q1_0_1 : z1.i.cell? ⟨w.heap.size, 1, none⟩ = some (.int .i16 fy) := by rw [z1.cell (by simp <;> omega)]; simp [go_sem]
  have q1_1_0 : z1.i.cell? ⟨w.heap.size + 1, 0, none⟩ = some (.int .i16 tx) := by rw [z1.cell (by simp <;> omega)]; simp [go_sem]
  have q1_1_1 : z1.i.cell? ⟨w.heap.size + 1, 1, none⟩ = some (.int .i16 ty) := by rw [z1.cell (by simp <;> omega)]; simp [go_sem]
  have sz1 := z1.size
  simp at sz1
  have l1_0 : w.heap.size < z1.i.heap.size := by omega
  have l1_1 : w.heap.size + 1 < z1.i.heap.size := by omega
  have bW1 : Below w.heap.size w z1.i := (((Below.refl _ w).alloc (by simp <;> omega) _).alloc (by simp <;> omega) _).trans (z1.h.mono (by simp <;> omega))
  clear sz1
  generalize z1.i = Z1 at *
  clear z1
  go_wp2_with fail
  refine (K1.out _).mono ?_
  rintro e w' ⟨rfl, z2, rfl⟩
  have q2_0_0 : z2.i.cell? ⟨w.heap.size, 0, none⟩ = some (.int .i16 fx) := by rw [z2.cell l1_0]; exact q1_0_0
  have q2_0_1 : z2.i.cell? ⟨w.heap.size, 1, none⟩ = some (.int .i16 fy) := by rw [z2.cell l1_0]; exact q1_0_1
  have q2_1_0 : z2.i.cell? ⟨w.heap.size + 1, 0, none⟩ = some (.int .i16 tx) := by rw [z2.cell l1_1]; exact q1_1_0
  have q2_1_1 : z2.i.cell? ⟨w.heap.size + 1, 1, none⟩ = some (.int .i16 ty) := by rw [z2.cell l1_1]; exact q1_1_1
  have sz2 := z2.size
  have l2_0 : w.heap.size < z2.i.heap.size := by omega
  have l2_1 : w.heap.size + 1 < z2.i.heap.size := by omega
  have bW2 : Below w.heap.size w z2.i := bW1.trans (z2.h.mono bW1.size)
  clear sz2 q1_0_0 q1_0_1 q1_1_0 q1_1_1 l1_0 l1_1 bW1
  generalize z2.i = Z2 at *
  clear z2
  go_wp2_with fail
  refine (K2.out _).mono ?_
  rintro e w' ⟨rfl, z3, rfl⟩
  have q3_0_0 : z3.i.cell? ⟨w.heap.size, 0, none⟩ = some (.int .i16 fx) := by rw [z3.cell (by simp; omega), World.cell?_alloc_lt _ _ _ (by simpa using l2_0)]; exact q2_0_0
  have q3_0_1 : z3.i.cell? ⟨w.heap.size, 1, none⟩ = some (.int .i16 fy) := by rw [z3.cell (by simp; omega), World.cell?_alloc_lt _ _ _ (by simpa using l2_0)]; exact q2_0_1
  have q3_1_0 : z3.i.cell? ⟨w.heap.size + 1, 0, none⟩ = some (.int .i16 tx) := by rw [z3.cell (by simp; omega), World.cell?_alloc_lt _ _ _ (by simpa using l2_1)]; exact q2_1_0
  have q3_1_1 : z3.i.cell? ⟨w.heap.size + 1, 1, none⟩ = some (.int .i16 ty) := by rw [z3.cell (by simp; omega), World.cell?_alloc_lt _ _ _ (by simpa using l2_1)]; exact q2_1_1
  have q3_2_0 : z3.i.cell? ⟨Z2.heap.size, 0, none⟩ = some (.int .i16 PX) := by rw [z3.cell (by simp)]; simp [go_sem]
  have q3_2_1 : z3.i.cell? ⟨Z2.heap.size, 1, none⟩ = some (.int .i16 PY) := by rw [z3.cell (by simp)]; simp [go_sem]
  have sz3 := z3.size
  simp at sz3
  have l3_0 : w.heap.size < z3.i.heap.size := by omega
  have l3_1 : w.heap.size + 1 < z3.i.heap.size := by omega
  have l3_2 : Z2.heap.size < z3.i.heap.size := by omega
  have bW3 : Below w.heap.size w z3.i := (bW2.alloc bW2.size _).trans (z3.h.mono (Nat.le_trans bW2.size (by simp)))
  clear sz3 q2_0_0 q2_0_1 q2_1_0 q2_1_1 l2_0 l2_1 bW2
  generalize Z2.heap.size = b3 at *
  generalize z3.i = Z3 at *
  clear z3
  go_wp2_with fail
  have m0 : w.heap.size < Z3.heap.size + 1 := by omega
  have m1 : w.heap.size + 1 < Z3.heap.size + 1 := by omega
  have m2 : b3 < Z3.heap.size + 1 := by omega
  refine wp_region_bw (Z3.heap.size + 1) _ (Below.refl _ _) (by kernel_rfl) (by kernel_rfl) ?_
  repeat (go_big_quiet_step ((first
    | (go_at_call 21; exact Calls.bw_of (by simp) (K3.out _ _ _ _ _ _ (by first | exact .inl ⟨rfl, rfl, rfl, rfl, rfl⟩ | exact .inr (.inl ⟨rfl, rfl, rfl, rfl, rfl⟩) | exact .inr (.inr ⟨rfl, rfl, rfl, rfl, rfl⟩))))
    | (go_at_call 24; exact Calls.bw_of (by simp) (K4.out _ _ _ _ _ _ (by first | exact .inl ⟨rfl, rfl, rfl, rfl, rfl⟩ | exact .inr ⟨rfl, rfl, rfl, rfl, rfl⟩)))
    | (go_at_call 23; exact Calls.bw_of (by simp) (lives_any _)))))
  refine wpQuiet_nil ?_
  intro x
  go_wp2_with fail
  refine wp_region_bw (Z3.heap.size + 1) _ x.h (by kernel_rfl) (by kernel_rfl) ?_
  repeat (go_big_quiet_step ((first
    | (go_at_call 21; exact Calls.bw_of (by simp) (K3.out _ _ _ _ _ _ (by first | exact .inl ⟨rfl, rfl, rfl, rfl, rfl⟩ | exact .inr (.inl ⟨rfl, rfl, rfl, rfl, rfl⟩) | exact .inr (.inr ⟨rfl, rfl, rfl, rfl, rfl⟩))))
    | (go_at_call 24; exact Calls.bw_of (by simp) (K4.out _ _ _ _ _ _ (by first | exact .inl ⟨rfl, rfl, rfl, rfl, rfl⟩ | exact .inr ⟨rfl, rfl, rfl, rfl, rfl⟩)))
    | (go_at_call 23; exact Calls.bw_of (by simp) (lives_any _)))))
  refine wpQuiet_nil ?_
  intro y
  go_wp2_with fail
  go_ret
  exact gives_of_eq rfl ((bW3.alloc bW3.size _).trans (y.h.mono (Nat.le_succ_of_le bW3.size)))

set_option maxHeartbeats 4000000 in
theorem way_101 (fx fy tx ty m n D M N k e PX PY QX QY SX SY m0 n0 : Int) (w : World) (d1 : 0 ≤ D) (d2 : D ≤ 131070) (dz : ¬ D + 3 = 0) (hm : m.tmod (D + 3) = m0) (hn : n.tmod (D + 3) = n0) (mb : -131073 < m0) (mb' : m0 < 131073) (nb : -131073 < n0) (nb' : n0 < 131073)
    (m1 : m0 < 0) (m2 : -m0 = M) (n1 : ¬ n0 < 0) (n2 : n0 = N) (k1 : ¬ D < M) (k2 : k = M) (k3 : e = D - k) (k4 : D - k < 1) (k5 : M ≤ D) (k6 : 0 ≤ D - k)
    (h0 : ∀ w, Calls Try.prog 21 #[.agg #[.int .i16 fx, .int .i16 fy], .agg #[.int .i16 tx, .int .i16 ty]] w (Gives (.int .i64 D) w))
    (h1 : ∀ w, Calls Try.prog 24 #[.agg #[.int .i16 fx, .int .i16 fy], .agg #[.int .i16 tx, .int .i16 ty], .int .i64 M] w (Gives (.agg #[.int .i16 PX, .int .i16 PY]) w))
    (h2 : ∀ w, Calls Try.prog 24 #[.agg #[.int .i16 PX, .int .i16 PY], .agg #[.int .i16 tx, .int .i16 ty], .int .i64 N] w (Gives (.agg #[.int .i16 QX, .int .i16 QY]) w))
    (h3 : ∀ w a b c d v, (a = fx ∧ b = fy ∧ c = PX ∧ d = PY ∧ v = k) ∨ (a = PX ∧ b = PY ∧ c = tx ∧ d = ty ∧ v = D - k) ∨ (a = PX ∧ b = PY ∧ c = SX ∧ d = SY ∧ v = e) →
      Calls Try.prog 21 #[.agg #[.int .i16 a, .int .i16 b], .agg #[.int .i16 c, .int .i16 d]] w (Gives (.int .i64 v) w))
    (h4 : ∀ w a b c d v, (a = fx ∧ b = fy ∧ v = M + N ∧ c = QX ∧ d = QY) ∨ (a = PX ∧ b = PY ∧ v = 1 ∧ c = SX ∧ d = SY) →
      Calls Try.prog 24 #[.agg #[.int .i16 a, .int .i16 b], .agg #[.int .i16 tx, .int .i16 ty], .int .i64 v] w (Gives (.agg #[.int .i16 c, .int .i16 d]) w)) :
    Calls Try.prog 12 #[.agg #[.int .i16 fx, .int .i16 fy], .agg #[.int .i16 tx, .int .i16 ty], .int .i64 m, .int .i64 n] w (Gives (.bool true) w) := by
  have K0 := Lib.hid h0
  have K1 := Lib.hid h1
  have K2 := Lib.hid h2
  have K3 := Lib.hid h3
  have K4 := Lib.hid h4
  clear h0 h1 h2 h3 h4
  go_enter Try.func12, Try.ntmps12
  go_wp2_with fail
  refine (K0.out _).mono ?_
  rintro e w' ⟨rfl, z1, rfl⟩
  have q1_0_0 : z1.i.cell? ⟨w.heap.size, 0, none⟩ = some (.int .i16 fx) := by rw [z1.cell (by simp <;> omega)]; simp [go_sem]
  have q1_0_1 : z1.i.cell? ⟨w.heap.size, 1, none⟩ = some (.int .i16 fy) := by rw [z1.cell (by simp <;> omega)]; simp [go_sem]
  have q1_1_0 : z1.i.cell? ⟨w.heap.size + 1, 0, none⟩ = some (.int .i16 tx) := by rw [z1.cell (by simp <;> omega)]; simp [go_sem]
  have q1_1_1 : z1.i.cell? ⟨w.heap.size + 1, 1, none⟩ = some (.int .i16 ty) := by rw [z1.cell (by simp <;> omega)]; simp [go_sem]
  have sz1 := z1.size
  simp at sz1
  have l1_0 : w.heap.size < z1.i.heap.size := by omega
  have l1_1 : w.heap.size + 1 < z1.i.heap.size := by omega
  have bW1 : Below w.heap.size w z1.i := (((Below.refl _ w).alloc (by simp <;> omega) _).alloc (by simp <;> omega) _).trans (z1.h.mono (by simp <;> omega))
  clear sz1
  generalize z1.i = Z1 at *
  clear z1
  go_wp2_with fail
  refine (K1.out _).mono ?_
  rintro e w' ⟨rfl, z2, rfl⟩
  have q2_0_0 : z2.i.cell? ⟨w.heap.size, 0, none⟩ = some (.int .i16 fx) := by rw [z2.cell l1_0]; exact q1_0_0
  have q2_0_1 : z2.i.cell? ⟨w.heap.size, 1, none⟩ = some (.int .i16 fy) := by rw [z2.cell l1_0]; exact q1_0_1
  have q2_1_0 : z2.i.cell? ⟨w.heap.size + 1, 0, none⟩ = some (.int .i16 tx) := by rw [z2.cell l1_1]; exact q1_1_0
  have q2_1_1 : z2.i.cell? ⟨w.heap.size + 1, 1, none⟩ = some (.int .i16 ty) := by rw [z2.cell l1_1]; exact q1_1_1
  have sz2 := z2.size
  have l2_0 : w.heap.size < z2.i.heap.size := by omega
  have l2_1 : w.heap.size + 1 < z2.i.heap.size := by omega
  have bW2 : Below w.heap.size w z2.i := bW1.trans (z2.h.mono bW1.size)
  clear sz2 q1_0_0 q1_0_1 q1_1_0 q1_1_1 l1_0 l1_1 bW1
  generalize z2.i = Z2 at *
  clear z2
  go_wp2_with fail
  refine (K2.out _).mono ?_
  rintro e w' ⟨rfl, z3, rfl⟩
  have q3_0_0 : z3.i.cell? ⟨w.heap.size, 0, none⟩ = some (.int .i16 fx) := by rw [z3.cell (by simp; omega), World.cell?_alloc_lt _ _ _ (by simpa using l2_0)]; exact q2_0_0
  have q3_0_1 : z3.i.cell? ⟨w.heap.size, 1, none⟩ = some (.int .i16 fy) := by rw [z3.cell (by simp; omega), World.cell?_alloc_lt _ _ _ (by simpa using l2_0)]; exact q2_0_1
  have q3_1_0 : z3.i.cell? ⟨w.heap.size + 1, 0, none⟩ = some (.int .i16 tx) := by rw [z3.cell (by simp; omega), World.cell?_alloc_lt _ _ _ (by simpa using l2_1)]; exact q2_1_0
  have q3_1_1 : z3.i.cell? ⟨w.heap.size + 1, 1, none⟩ = some (.int .i16 ty) := by rw [z3.cell (by simp; omega), World.cell?_alloc_lt _ _ _ (by simpa using l2_1)]; exact q2_1_1
  have q3_2_0 : z3.i.cell? ⟨Z2.heap.size, 0, none⟩ = some (.int .i16 PX) := by rw [z3.cell (by simp)]; simp [go_sem]
  have q3_2_1 : z3.i.cell? ⟨Z2.heap.size, 1, none⟩ = some (.int .i16 PY) := by rw [z3.cell (by simp)]; simp [go_sem]
  have sz3 := z3.size
  simp at sz3
  have l3_0 : w.heap.size < z3.i.heap.size := by omega
  have l3_1 : w.heap.size + 1 < z3.i.heap.size := by omega
  have l3_2 : Z2.heap.size < z3.i.heap.size := by omega
  have bW3 : Below w.heap.size w z3.i := (bW2.alloc bW2.size _).trans (z3.h.mono (Nat.le_trans bW2.size (by simp)))
  clear sz3 q2_0_0 q2_0_1 q2_1_0 q2_1_1 l2_0 l2_1 bW2
  generalize Z2.heap.size = b3 at *
  generalize z3.i = Z3 at *
  clear z3
  go_wp2_with fail
  have m0 : w.heap.size < Z3.heap.size + 1 := by omega
  have m1 : w.heap.size + 1 < Z3.heap.size + 1 := by omega
  have m2 : b3 < Z3.heap.size + 1 := by omega
  refine wp_region_bw (Z3.heap.size + 1) _ (Below.refl _ _) (by kernel_rfl) (by kernel_rfl) ?_
  repeat (go_big_quiet_step ((first
    | (go_at_call 21; exact Calls.bw_of (by simp) (K3.out _ _ _ _ _ _ (by first | exact .inl ⟨rfl, rfl, rfl, rfl, rfl⟩ | exact .inr (.inl ⟨rfl, rfl, rfl, rfl, rfl⟩) | exact .inr (.inr ⟨rfl, rfl, rfl, rfl, rfl⟩))))
    | (go_at_call 24; exact Calls.bw_of (by simp) (K4.out _ _ _ _ _ _ (by first | exact .inl ⟨rfl, rfl, rfl, rfl, rfl⟩ | exact .inr ⟨rfl, rfl, rfl, rfl, rfl⟩)))
    | (go_at_call 23; exact Calls.bw_of (by simp) (lives_any _)))))
  refine wpQuiet_nil ?_
  intro x
  go_wp2_with fail
  refine wp_region_bw (Z3.heap.size + 1) _ x.h (by kernel_rfl) (by kernel_rfl) ?_
  repeat (go_big_quiet_step ((first
    | (go_at_call 21; exact Calls.bw_of (by simp) (K3.out _ _ _ _ _ _ (by first | exact .inl ⟨rfl, rfl, rfl, rfl, rfl⟩ | exact .inr (.inl ⟨rfl, rfl, rfl, rfl, rfl⟩) | exact .inr (.inr ⟨rfl, rfl, rfl, rfl, rfl⟩))))
    | (go_at_call 24; exact Calls.bw_of (by simp) (K4.out _ _ _ _ _ _ (by first | exact .inl ⟨rfl, rfl, rfl, rfl, rfl⟩ | exact .inr ⟨rfl, rfl, rfl, rfl, rfl⟩)))
    | (go_at_call 23; exact Calls.bw_of (by simp) (lives_any _)))))
  refine wpQuiet_nil ?_
  intro y
  go_wp2_with fail
  go_ret
  exact gives_of_eq rfl ((bW3.alloc bW3.size _).trans (y.h.mono (Nat.le_succ_of_le bW3.size)))

set_option maxHeartbeats 4000000 in
theorem way_102 (fx fy tx ty m n D M N k e PX PY QX QY SX SY m0 n0 : Int) (w : World) (d1 : 0 ≤ D) (d2 : D ≤ 131070) (dz : ¬ D + 3 = 0) (hm : m.tmod (D + 3) = m0) (hn : n.tmod (D + 3) = n0) (mb : -131073 < m0) (mb' : m0 < 131073) (nb : -131073 < n0) (nb' : n0 < 131073)
    (m1 : m0 < 0) (m2 : -m0 = M) (n1 : ¬ n0 < 0) (n2 : n0 = N) (k1 : ¬ D < M) (k2 : k = M) (k3 : e = 1) (k4 : ¬ D - k < 1) (k5 : M ≤ D) (k6 : 1 ≤ D - k)
    (h0 : ∀ w, Calls Try.prog 21 #[.agg #[.int .i16 fx, .int .i16 fy], .agg #[.int .i16 tx, .int .i16 ty]] w (Gives (.int .i64 D) w))
    (h1 : ∀ w, Calls Try.prog 24 #[.agg #[.int .i16 fx, .int .i16 fy], .agg #[.int .i16 tx, .int .i16 ty], .int .i64 M] w (Gives (.agg #[.int .i16 PX, .int .i16 PY]) w))
    (h2 : ∀ w, Calls Try.prog 24 #[.agg #[.int .i16 PX, .int .i16 PY], .agg #[.int .i16 tx, .int .i16 ty], .int .i64 N] w (Gives (.agg #[.int .i16 QX, .int .i16 QY]) w))
    (h3 : ∀ w a b c d v, (a = fx ∧ b = fy ∧ c = PX ∧ d = PY ∧ v = k) ∨ (a = PX ∧ b = PY ∧ c = tx ∧ d = ty ∧ v = D - k) ∨ (a = PX ∧ b = PY ∧ c = SX ∧ d = SY ∧ v = e) →
      Calls Try.prog 21 #[.agg #[.int .i16 a, .int .i16 b], .agg #[.int .i16 c, .int .i16 d]] w (Gives (.int .i64 v) w))
    (h4 : ∀ w a b c d v, (a = fx ∧ b = fy ∧ v = M + N ∧ c = QX ∧ d = QY) ∨ (a = PX ∧ b = PY ∧ v = 1 ∧ c = SX ∧ d = SY) →
      Calls Try.prog 24 #[.agg #[.int .i16 a, .int .i16 b], .agg #[.int .i16 tx, .int .i16 ty], .int .i64 v] w (Gives (.agg #[.int .i16 c, .int .i16 d]) w)) :
    Calls Try.prog 12 #[.agg #[.int .i16 fx, .int .i16 fy], .agg #[.int .i16 tx, .int .i16 ty], .int .i64 m, .int .i64 n] w (Gives (.bool true) w) := by
  have K0 := Lib.hid h0
  have K1 := Lib.hid h1
  have K2 := Lib.hid h2
  have K3 := Lib.hid h3
  have K4 := Lib.hid h4
  clear h0 h1 h2 h3 h4
  go_enter Try.func12, Try.ntmps12
  go_wp2_with fail
  refine (K0.out _).mono ?_
  rintro e w' ⟨rfl, z1, rfl⟩
  have q1_0_0 : z1.i.cell? ⟨w.heap.size, 0, none⟩ = some (.int .i16 fx) := by rw [z1.cell (by simp <;> omega)]; simp [go_sem]
  have q1_0_1 : z1.i.cell? ⟨w.heap.size, 1, none⟩ = some (.int .i16 fy) := by rw [z1.cell (by simp <;> omega)]; simp [go_sem]
  have q1_1_0 : z1.i.cell? ⟨w.heap.size + 1, 0, none⟩ = some (.int .i16 tx) := by rw [z1.cell (by simp <;> omega)]; simp [go_sem]
  have q1_1_1 : z1.i.cell? ⟨w.heap.size + 1, 1, none⟩ = some (.int .i16 ty) := by rw [z1.cell (by simp <;> omega)]; simp [go_sem]
  have sz1 := z1.size
  simp at sz1
  have l1_0 : w.heap.size < z1.i.heap.size := by omega
  have l1_1 : w.heap.size + 1 < z1.i.heap.size := by omega
  have bW1 : Below w.heap.size w z1.i := (((Below.refl _ w).alloc (by simp <;> omega) _).alloc (by simp <;> omega) _).trans (z1.h.mono (by simp <;> omega))
  clear sz1
  generalize z1.i = Z1 at *
  clear z1
  go_wp2_with fail
  refine (K1.out _).mono ?_
  rintro e w' ⟨rfl, z2, rfl⟩
  have q2_0_0 : z2.i.cell? ⟨w.heap.size, 0, none⟩ = some (.int .i16 fx) := by rw [z2.cell l1_0]; exact q1_0_0
  have q2_0_1 : z2.i.cell? ⟨w.heap.size, 1, none⟩ = some (.int .i16 fy) := by rw [z2.cell l1_0]; exact q1_0_1
  have q2_1_0 : z2.i.cell? ⟨w.heap.size + 1, 0, none⟩ = some (.int .i16 tx) := by rw [z2.cell l1_1]; exact q1_1_0
  have q2_1_1 : z2.i.cell? ⟨w.heap.size + 1, 1, none⟩ = some (.int .i16 ty) := by rw [z2.cell l1_1]; exact q1_1_1
  have sz2 := z2.size
  have l2_0 : w.heap.size < z2.i.heap.size := by omega
  have l2_1 : w.heap.size + 1 < z2.i.heap.size := by omega
  have bW2 : Below w.heap.size w z2.i := bW1.trans (z2.h.mono bW1.size)
  clear sz2 q1_0_0 q1_0_1 q1_1_0 q1_1_1 l1_0 l1_1 bW1
  generalize z2.i = Z2 at *
  clear z2
  go_wp2_with fail
  refine (K2.out _).mono ?_
  rintro e w' ⟨rfl, z3, rfl⟩
  have q3_0_0 : z3.i.cell? ⟨w.heap.size, 0, none⟩ = some (.int .i16 fx) := by rw [z3.cell (by simp; omega), World.cell?_alloc_lt _ _ _ (by simpa using l2_0)]; exact q2_0_0
  have q3_0_1 : z3.i.cell? ⟨w.heap.size, 1, none⟩ = some (.int .i16 fy) := by rw [z3.cell (by simp; omega), World.cell?_alloc_lt _ _ _ (by simpa using l2_0)]; exact q2_0_1
  have q3_1_0 : z3.i.cell? ⟨w.heap.size + 1, 0, none⟩ = some (.int .i16 tx) := by rw [z3.cell (by simp; omega), World.cell?_alloc_lt _ _ _ (by simpa using l2_1)]; exact q2_1_0
  have q3_1_1 : z3.i.cell? ⟨w.heap.size + 1, 1, none⟩ = some (.int .i16 ty) := by rw [z3.cell (by simp; omega), World.cell?_alloc_lt _ _ _ (by simpa using l2_1)]; exact q2_1_1
  have q3_2_0 : z3.i.cell? ⟨Z2.heap.size, 0, none⟩ = some (.int .i16 PX) := by rw [z3.cell (by simp)]; simp [go_sem]
  have q3_2_1 : z3.i.cell? ⟨Z2.heap.size, 1, none⟩ = some (.int .i16 PY) := by rw [z3.cell (by simp)]; simp [go_sem]
  have sz3 := z3.size
  simp at sz3
  have l3_0 : w.heap.size < z3.i.heap.size := by omega
  have l3_1 : w.heap.size + 1 < z3.i.heap.size := by omega
  have l3_2 : Z2.heap.size < z3.i.heap.size := by omega
  have bW3 : Below w.heap.size w z3.i := (bW2.alloc bW2.size _).trans (z3.h.mono (Nat.le_trans bW2.size (by simp)))
  clear sz3 q2_0_0 q2_0_1 q2_1_0 q2_1_1 l2_0 l2_1 bW2
  generalize Z2.heap.size = b3 at *
  generalize z3.i = Z3 at *
  clear z3
  go_wp2_with fail
  have m0 : w.heap.size < Z3.heap.size + 1 := by omega
  have m1 : w.heap.size + 1 < Z3.heap.size + 1 := by omega
  have m2 : b3 < Z3.heap.size + 1 := by omega
  refine wp_region_bw (Z3.heap.size + 1) _ (Below.refl _ _) (by kernel_rfl) (by kernel_rfl) ?_
  repeat (go_big_quiet_step ((first
    | (go_at_call 21; exact Calls.bw_of (by simp) (K3.out _ _ _ _ _ _ (by first | exact .inl ⟨rfl, rfl, rfl, rfl, rfl⟩ | exact .inr (.inl ⟨rfl, rfl, rfl, rfl, rfl⟩) | exact .inr (.inr ⟨rfl, rfl, rfl, rfl, rfl⟩))))
    | (go_at_call 24; exact Calls.bw_of (by simp) (K4.out _ _ _ _ _ _ (by first | exact .inl ⟨rfl, rfl, rfl, rfl, rfl⟩ | exact .inr ⟨rfl, rfl, rfl, rfl, rfl⟩)))
    | (go_at_call 23; exact Calls.bw_of (by simp) (lives_any _)))))
  refine wpQuiet_nil ?_
  intro x
  go_wp2_with fail
  refine wp_region_bw (Z3.heap.size + 1) _ x.h (by kernel_rfl) (by kernel_rfl) ?_
  repeat (go_big_quiet_step ((first
    | (go_at_call 21; exact Calls.bw_of (by simp) (K3.out _ _ _ _ _ _ (by first | exact .inl ⟨rfl, rfl, rfl, rfl, rfl⟩ | exact .inr (.inl ⟨rfl, rfl, rfl, rfl, rfl⟩) | exact .inr (.inr ⟨rfl, rfl, rfl, rfl, rfl⟩))))
    | (go_at_call 24; exact Calls.bw_of (by simp) (K4.out _ _ _ _ _ _ (by first | exact .inl ⟨rfl, rfl, rfl, rfl, rfl⟩ | exact .inr ⟨rfl, rfl, rfl, rfl, rfl⟩)))
    | (go_at_call 23; exact Calls.bw_of (by simp) (lives_any _)))))
  refine wpQuiet_nil ?_
  intro y
  go_wp2_with fail
  go_ret
  exact gives_of_eq rfl ((bW3.alloc bW3.size _).trans (y.h.mono (Nat.le_succ_of_le bW3.size)))

set_option maxHeartbeats 4000000 in
theorem way_110 (fx fy tx ty m n D M N k e PX PY QX QY SX SY m0 n0 : Int) (w : World) (d1 : 0 ≤ D) (d2 : D ≤ 131070) (dz : ¬ D + 3 = 0) (hm : m.tmod (D + 3) = m0) (hn : n.tmod (D + 3) = n0) (mb : -131073 < m0) (mb' : m0 < 131073) (nb : -131073 < n0) (nb' : n0 < 131073)
    (m1 : m0 < 0) (m2 : -m0 = M) (n1 : n0 < 0) (n2 : -n0 = N) (k1 : D < M) (k2 : k = D) (k3 : e = D - k) (k4 : D - k < 1) (k5 : ¬ M ≤ D) (k6 : 0 ≤ D - k)
    (h0 : ∀ w, Calls Try.prog 21 #[.agg #[.int .i16 fx, .int .i16 fy], .agg #[.int .i16 tx, .int .i16 ty]] w (Gives (.int .i64 D) w))
    (h1 : ∀ w, Calls Try.prog 24 #[.agg #[.int .i16 fx, .int .i16 fy], .agg #[.int .i16 tx, .int .i16 ty], .int .i64 M] w (Gives (.agg #[.int .i16 PX, .int .i16 PY]) w))
    (h2 : ∀ w, Calls Try.prog 24 #[.agg #[.int .i16 PX, .int .i16 PY], .agg #[.int .i16 tx, .int .i16 ty], .int .i64 N] w (Gives (.agg #[.int .i16 QX, .int .i16 QY]) w))
    (h3 : ∀ w a b c d v, (a = fx ∧ b = fy ∧ c = PX ∧ d = PY ∧ v = k) ∨ (a = PX ∧ b = PY ∧ c = tx ∧ d = ty ∧ v = D - k) ∨ (a = PX ∧ b = PY ∧ c = SX ∧ d = SY ∧ v = e) →
      Calls Try.prog 21 #[.agg #[.int .i16 a, .int .i16 b], .agg #[.int .i16 c, .int .i16 d]] w (Gives (.int .i64 v) w))
    (h4 : ∀ w a b c d v, (a = fx ∧ b = fy ∧ v = M + N ∧ c = QX ∧ d = QY) ∨ (a = PX ∧ b = PY ∧ v = 1 ∧ c = SX ∧ d = SY) →
      Calls Try.prog 24 #[.agg #[.int .i16 a, .int .i16 b], .agg #[.int .i16 tx, .int .i16 ty], .int .i64 v] w (Gives (.agg #[.int .i16 c, .int .i16 d]) w)) :
    Calls Try.prog 12 #[.agg #[.int .i16 fx, .int .i16 fy], .agg #[.int .i16 tx, .int .i16 ty], .int .i64 m, .int .i64 n] w (Gives (.bool true) w) := by
  have K0 := Lib.hid h0
  have K1 := Lib.hid h1
  have K2 := Lib.hid h2
  have K3 := Lib.hid h3
  have K4 := Lib.hid h4
  clear h0 h1 h2 h3 h4
  go_enter Try.func12, Try.ntmps12
  go_wp2_with fail
  refine (K0.out _).mono ?_
  rintro e w' ⟨rfl, z1, rfl⟩
  have q1_0_0 : z1.i.cell? ⟨w.heap.size, 0, none⟩ = some (.int .i16 fx) := by rw [z1.cell (by simp <;> omega)]; simp [go_sem]
  have q1_0_1 : z1.i.cell? ⟨w.heap.size, 1, none⟩ = some (.int .i16 fy) := by rw [z1.cell (by simp <;> omega)]; simp [go_sem]
  have q1_1_0 : z1.i.cell? ⟨w.heap.size + 1, 0, none⟩ = some (.int .i16 tx) := by rw [z1.cell (by simp <;> omega)]; simp [go_sem]
  have q1_1_1 : z1.i.cell? ⟨w.heap.size + 1, 1, none⟩ = some (.int .i16 ty) := by rw [z1.cell (by simp <;> omega)]; simp [go_sem]
  have sz1 := z1.size
  simp at sz1
  have l1_0 : w.heap.size < z1.i.heap.size := by omega
  have l1_1 : w.heap.size + 1 < z1.i.heap.size := by omega
  have bW1 : Below w.heap.size w z1.i := (((Below.refl _ w).alloc (by simp <;> omega) _).alloc (by simp <;> omega) _).trans (z1.h.mono (by simp <;> omega))
  clear sz1
  generalize z1.i = Z1 at *
  clear z1
  go_wp2_with fail
  refine (K1.out _).mono ?_
  rintro e w' ⟨rfl, z2, rfl⟩
  have q2_0_0 : z2.i.cell? ⟨w.heap.size, 0, none⟩ = some (.int .i16 fx) := by rw [z2.cell l1_0]; exact q1_0_0
  have q2_0_1 : z2.i.cell? ⟨w.heap.size, 1, none⟩ = some (.int .i16 fy) := by rw [z2.cell l1_0]; exact q1_0_1
  have q2_1_0 : z2.i.cell? ⟨w.heap.size + 1, 0, none⟩ = some (.int .i16 tx) := by rw [z2.cell l1_1]; exact q1_1_0
  have q2_1_1 : z2.i.cell? ⟨w.heap.size + 1, 1, none⟩ = some (.int .i16 ty) := by rw [z2.cell l1_1]; exact q1_1_1
  have sz2 := z2.size
  have l2_0 : w.heap.size < z2.i.heap.size := by omega
  have l2_1 : w.heap.size + 1 < z2.i.heap.size := by omega
  have bW2 : Below w.heap.size w z2.i := bW1.trans (z2.h.mono bW1.size)
  clear sz2 q1_0_0 q1_0_1 q1_1_0 q1_1_1 l1_0 l1_1 bW1
  generalize z2.i = Z2 at *
  clear z2
  go_wp2_with fail
  refine (K2.out _).mono ?_
  rintro e w' ⟨rfl, z3, rfl⟩
  have q3_0_0 : z3.i.cell? ⟨w.heap.size, 0, none⟩ = some (.int .i16 fx) := by rw [z3.cell (by simp; omega), World.cell?_alloc_lt _ _ _ (by simpa using l2_0)]; exact q2_0_0
  have q3_0_1 : z3.i.cell? ⟨w.heap.size, 1, none⟩ = some (.int .i16 fy) := by rw [z3.cell (by simp; omega), World.cell?_alloc_lt _ _ _ (by simpa using l2_0)]; exact q2_0_1
  have q3_1_0 : z3.i.cell? ⟨w.heap.size + 1, 0, none⟩ = some (.int .i16 tx) := by rw [z3.cell (by simp; omega), World.cell?_alloc_lt _ _ _ (by simpa using l2_1)]; exact q2_1_0
  have q3_1_1 : z3.i.cell? ⟨w.heap.size + 1, 1, none⟩ = some (.int .i16 ty) := by rw [z3.cell (by simp; omega), World.cell?_alloc_lt _ _ _ (by simpa using l2_1)]; exact q2_1_1
  have q3_2_0 : z3.i.cell? ⟨Z2.heap.size, 0, none⟩ = some (.int .i16 PX) := by rw [z3.cell (by simp)]; simp [go_sem]
  have q3_2_1 : z3.i.cell? ⟨Z2.heap.size, 1, none⟩ = some (.int .i16 PY) := by rw [z3.cell (by simp)]; simp [go_sem]
  have sz3 := z3.size
  simp at sz3
  have l3_0 : w.heap.size < z3.i.heap.size := by omega
  have l3_1 : w.heap.size + 1 < z3.i.heap.size := by omega
  have l3_2 : Z2.heap.size < z3.i.heap.size := by omega
  have bW3 : Below w.heap.size w z3.i := (bW2.alloc bW2.size _).trans (z3.h.mono (Nat.le_trans bW2.size (by simp)))
  clear sz3 q2_0_0 q2_0_1 q2_1_0 q2_1_1 l2_0 l2_1 bW2
  generalize Z2.heap.size = b3 at *
  generalize z3.i = Z3 at *
  clear z3
  go_wp2_with fail
  have m0 : w.heap.size < Z3.heap.size + 1 := by omega
  have m1 : w.heap.size + 1 < Z3.heap.size + 1 := by omega
  have m2 : b3 < Z3.heap.size + 1 := by omega
  refine wp_region_bw (Z3.heap.size + 1) _ (Below.refl _ _) (by kernel_rfl) (by kernel_rfl) ?_
  repeat (go_big_quiet_step ((first
    | (go_at_call 21; exact Calls.bw_of (by simp) (K3.out _ _ _ _ _ _ (by first | exact .inl ⟨rfl, rfl, rfl, rfl, rfl⟩ | exact .inr (.inl ⟨rfl, rfl, rfl, rfl, rfl⟩) | exact .inr (.inr ⟨rfl, rfl, rfl, rfl, rfl⟩))))
    | (go_at_call 24; exact Calls.bw_of (by simp) (K4.out _ _ _ _ _ _ (by first | exact .inl ⟨rfl, rfl, rfl, rfl, rfl⟩ | exact .inr ⟨rfl, rfl, rfl, rfl, rfl⟩)))
    | (go_at_call 23; exact Calls.bw_of (by simp) (lives_any _)))))
  refine wpQuiet_nil ?_
  intro x
  go_wp2_with fail
  refine wp_region_bw (Z3.heap.size + 1) _ x.h (by kernel_rfl) (by kernel_rfl) ?_
  repeat (go_big_quiet_step ((first
    | (go_at_call 21; exact Calls.bw_of (by simp) (K3.out _ _ _ _ _ _ (by first | exact .inl ⟨rfl, rfl, rfl, rfl, rfl⟩ | exact .inr (.inl ⟨rfl, rfl, rfl, rfl, rfl⟩) | exact .inr (.inr ⟨rfl, rfl, rfl, rfl, rfl⟩))))
    | (go_at_call 24; exact Calls.bw_of (by simp) (K4.out _ _ _ _ _ _ (by first | exact .inl ⟨rfl, rfl, rfl, rfl, rfl⟩ | exact .inr ⟨rfl, rfl, rfl, rfl, rfl⟩)))
    | (go_at_call 23; exact Calls.bw_of (by simp) (lives_any _)))))
  refine wpQuiet_nil ?_
  intro y
  go_wp2_with fail
  go_ret
  exact gives_of_eq rfl ((bW3.alloc bW3.size _).trans (y.h.mono (Nat.le_succ_of_le bW3.size)))

set_option maxHeartbeats 4000000 in
theorem way_111 (fx fy tx ty m n D M N k e PX PY QX QY SX SY m0 n0 : Int) (w : World) (d1 : 0 ≤ D) (d2 : D ≤ 131070) (dz : ¬ D + 3 = 0) (hm : m.tmod (D + 3) = m0) (hn : n.tmod (D + 3) = n0) (mb : -131073 < m0) (mb' : m0 < 131073) (nb : -131073 < n0) (nb' : n0 < 131073)
    (m1 : m0 < 0) (m2 : -m0 = M) (n1 : n0 < 0) (n2 : -n0 = N) (k1 : ¬ D < M) (k2 : k = M) (k3 : e = D - k) (k4 : D - k < 1) (k5 : M ≤ D) (k6 : 0 ≤ D - k)
    (h0 : ∀ w, Calls Try.prog 21 #[.agg #[.int .i16 fx, .int .i16 fy], .agg #[.int .i16 tx, .int .i16 ty]] w (Gives (.int .i64 D) w))
    (h1 : ∀ w, Calls Try.prog 24 #[.agg #[.int .i16 fx, .int .i16 fy], .agg #[.int .i16 tx, .int .i16 ty], .int .i64 M] w (Gives (.agg #[.int .i16 PX, .int .i16 PY]) w))
    (h2 : ∀ w, Calls Try.prog 24 #[.agg #[.int .i16 PX, .int .i16 PY], .agg #[.int .i16 tx, .int .i16 ty], .int .i64 N] w (Gives (.agg #[.int .i16 QX, .int .i16 QY]) w))
    (h3 : ∀ w a b c d v, (a = fx ∧ b = fy ∧ c = PX ∧ d = PY ∧ v = k) ∨ (a = PX ∧ b = PY ∧ c = tx ∧ d = ty ∧ v = D - k) ∨ (a = PX ∧ b = PY ∧ c = SX ∧ d = SY ∧ v = e) →
      Calls Try.prog 21 #[.agg #[.int .i16 a, .int .i16 b], .agg #[.int .i16 c, .int .i16 d]] w (Gives (.int .i64 v) w))
    (h4 : ∀ w a b c d v, (a = fx ∧ b = fy ∧ v = M + N ∧ c = QX ∧ d = QY) ∨ (a = PX ∧ b = PY ∧ v = 1 ∧ c = SX ∧ d = SY) →
      Calls Try.prog 24 #[.agg #[.int .i16 a, .int .i16 b], .agg #[.int .i16 tx, .int .i16 ty], .int .i64 v] w (Gives (.agg #[.int .i16 c, .int .i16 d]) w)) :
    Calls Try.prog 12 #[.agg #[.int .i16 fx, .int .i16 fy], .agg #[.int .i16 tx, .int .i16 ty], .int .i64 m, .int .i64 n] w (Gives (.bool true) w) := by
  have K0 := Lib.hid h0
  have K1 := Lib.hid h1
  have K2 := Lib.hid h2
  have K3 := Lib.hid h3
  have K4 := Lib.hid h4
  clear h0 h1 h2 h3 h4
  go_enter Try.func12, Try.ntmps12
  go_wp2_with fail
  refine (K0.out _).mono ?_
  rintro e w' ⟨rfl, z1, rfl⟩
  have q1_0_0 : z1.i.cell? ⟨w.heap.size, 0, none⟩ = some (.int .i16 fx) := by rw [z1.cell (by simp <;> omega)]; simp [go_sem]
  have q1_0_1 : z1.i.cell? ⟨w.heap.size, 1, none⟩ = some (.int .i16 fy) := by rw [z1.cell (by simp <;> omega)]; simp [go_sem]
  have q1_1_0 : z1.i.cell? ⟨w.heap.size + 1, 0, none⟩ = some (.int .i16 tx) := by rw [z1.cell (by simp <;> omega)]; simp [go_sem]
  have q1_1_1 : z1.i.cell? ⟨w.heap.size + 1, 1, none⟩ = some (.int .i16 ty) := by rw [z1.cell (by simp <;> omega)]; simp [go_sem]
  have sz1 := z1.size
  simp at sz1
  have l1_0 : w.heap.size < z1.i.heap.size := by omega
  have l1_1 : w.heap.size + 1 < z1.i.heap.size := by omega
  have bW1 : Below w.heap.size w z1.i := (((Below.refl _ w).alloc (by simp <;> omega) _).alloc (by simp <;> omega) _).trans (z1.h.mono (by simp <;> omega))
  clear sz1
  generalize z1.i = Z1 at *
  clear z1
  go_wp2_with fail
  refine (K1.out _).mono ?_
  rintro e w' ⟨rfl, z2, rfl⟩
  have q2_0_0 : z2.i.cell? ⟨w.heap.size, 0, none⟩ = some (.int .i16 fx) := by rw [z2.cell l1_0]; exact q1_0_0
  have q2_0_1 : z2.i.cell? ⟨w.heap.size, 1, none⟩ = some (.int .i16 fy) := by rw [z2.cell l1_0]; exact q1_0_1
  have q2_1_0 : z2.i.cell? ⟨w.heap.size + 1, 0, none⟩ = some (.int .i16 tx) := by rw [z2.cell l1_1]; exact q1_1_0
  have q2_1_1 : z2.i.cell? ⟨w.heap.size + 1, 1, none⟩ = some (.int .i16 ty) := by rw [z2.cell l1_1]; exact q1_1_1
  have sz2 := z2.size
  have l2_0 : w.heap.size < z2.i.heap.size := by omega
  have l2_1 : w.heap.size + 1 < z2.i.heap.size := by omega
  have bW2 : Below w.heap.size w z2.i := bW1.trans (z2.h.mono bW1.size)
  clear sz2 q1_0_0 q1_0_1 q1_1_0 q1_1_1 l1_0 l1_1 bW1
  generalize z2.i = Z2 at *
  clear z2
  go_wp2_with fail
  refine (K2.out _).mono ?_
  rintro e w' ⟨rfl, z3, rfl⟩
  have q3_0_0 : z3.i.cell? ⟨w.heap.size, 0, none⟩ = some (.int .i16 fx) := by rw [z3.cell (by simp; omega), World.cell?_alloc_lt _ _ _ (by simpa using l2_0)]; exact q2_0_0
  have q3_0_1 : z3.i.cell? ⟨w.heap.size, 1, none⟩ = some (.int .i16 fy) := by rw [z3.cell (by simp; omega), World.cell?_alloc_lt _ _ _ (by simpa using l2_0)]; exact q2_0_1
  have q3_1_0 : z3.i.cell? ⟨w.heap.size + 1, 0, none⟩ = some (.int .i16 tx) := by rw [z3.cell (by simp; omega), World.cell?_alloc_lt _ _ _ (by simpa using l2_1)]; exact q2_1_0
  have q3_1_1 : z3.i.cell? ⟨w.heap.size + 1, 1, none⟩ = some (.int .i16 ty) := by rw [z3.cell (by simp; omega), World.cell?_alloc_lt _ _ _ (by simpa using l2_1)]; exact q2_1_1
  have q3_2_0 : z3.i.cell? ⟨Z2.heap.size, 0, none⟩ = some (.int .i16 PX) := by rw [z3.cell (by simp)]; simp [go_sem]
  have q3_2_1 : z3.i.cell? ⟨Z2.heap.size, 1, none⟩ = some (.int .i16 PY) := by rw [z3.cell (by simp)]; simp [go_sem]
  have sz3 := z3.size
  simp at sz3
  have l3_0 : w.heap.size < z3.i.heap.size := by omega
  have l3_1 : w.heap.size + 1 < z3.i.heap.size := by omega
  have l3_2 : Z2.heap.size < z3.i.heap.size := by omega
  have bW3 : Below w.heap.size w z3.i := (bW2.alloc bW2.size _).trans (z3.h.mono (Nat.le_trans bW2.size (by simp)))
  clear sz3 q2_0_0 q2_0_1 q2_1_0 q2_1_1 l2_0 l2_1 bW2
  generalize Z2.heap.size = b3 at *
  generalize z3.i = Z3 at *
  clear z3
  go_wp2_with fail
  have m0 : w.heap.size < Z3.heap.size + 1 := by omega
  have m1 : w.heap.size + 1 < Z3.heap.size + 1 := by omega
  have m2 : b3 < Z3.heap.size + 1 := by omega
  refine wp_region_bw (Z3.heap.size + 1) _ (Below.refl _ _) (by kernel_rfl) (by kernel_rfl) ?_
  repeat (go_big_quiet_step ((first
    | (go_at_call 21; exact Calls.bw_of (by simp) (K3.out _ _ _ _ _ _ (by first | exact .inl ⟨rfl, rfl, rfl, rfl, rfl⟩ | exact .inr (.inl ⟨rfl, rfl, rfl, rfl, rfl⟩) | exact .inr (.inr ⟨rfl, rfl, rfl, rfl, rfl⟩))))
    | (go_at_call 24; exact Calls.bw_of (by simp) (K4.out _ _ _ _ _ _ (by first | exact .inl ⟨rfl, rfl, rfl, rfl, rfl⟩ | exact .inr ⟨rfl, rfl, rfl, rfl, rfl⟩)))
    | (go_at_call 23; exact Calls.bw_of (by simp) (lives_any _)))))
  refine wpQuiet_nil ?_
  intro x
  go_wp2_with fail
  refine wp_region_bw (Z3.heap.size + 1) _ x.h (by kernel_rfl) (by kernel_rfl) ?_
  repeat (go_big_quiet_step ((first
    | (go_at_call 21; exact Calls.bw_of (by simp) (K3.out _ _ _ _ _ _ (by first | exact .inl ⟨rfl, rfl, rfl, rfl, rfl⟩ | exact .inr (.inl ⟨rfl, rfl, rfl, rfl, rfl⟩) | exact .inr (.inr ⟨rfl, rfl, rfl, rfl, rfl⟩))))
    | (go_at_call 24; exact Calls.bw_of (by simp) (K4.out _ _ _ _ _ _ (by first | exact .inl ⟨rfl, rfl, rfl, rfl, rfl⟩ | exact .inr ⟨rfl, rfl, rfl, rfl, rfl⟩)))
    | (go_at_call 23; exact Calls.bw_of (by simp) (lives_any _)))))
  refine wpQuiet_nil ?_
  intro y
  go_wp2_with fail
  go_ret
  exact gives_of_eq rfl ((bW3.alloc bW3.size _).trans (y.h.mono (Nat.le_succ_of_le bW3.size)))

set_option maxHeartbeats 4000000 in
theorem way_112 (fx fy tx ty m n D M N k e PX PY QX QY SX SY m0 n0 : Int) (w : World) (d1 : 0 ≤ D) (d2 : D ≤ 131070) (dz : ¬ D + 3 = 0) (hm : m.tmod (D + 3) = m0) (hn : n.tmod (D + 3) = n0) (mb : -131073 < m0) (mb' : m0 < 131073) (nb : -131073 < n0) (nb' : n0 < 131073)
    (m1 : m0 < 0) (m2 : -m0 = M) (n1 : n0 < 0) (n2 : -n0 = N) (k1 : ¬ D < M) (k2 : k = M) (k3 : e = 1) (k4 : ¬ D - k < 1) (k5 : M ≤ D) (k6 : 1 ≤ D - k)
    (h0 : ∀ w, Calls Try.prog 21 #[.agg #[.int .i16 fx, .int .i16 fy], .agg #[.int .i16 tx, .int .i16 ty]] w (Gives (.int .i64 D) w))
    (h1 : ∀ w, Calls Try.prog 24 #[.agg #[.int .i16 fx, .int .i16 fy], .agg #[.int .i16 tx, .int .i16 ty], .int .i64 M] w (Gives (.agg #[.int .i16 PX, .int .i16 PY]) w))
    (h2 : ∀ w, Calls Try.prog 24 #[.agg #[.int .i16 PX, .int .i16 PY], .agg #[.int .i16 tx, .int .i16 ty], .int .i64 N] w (Gives (.agg #[.int .i16 QX, .int .i16 QY]) w))
    (h3 : ∀ w a b c d v, (a = fx ∧ b = fy ∧ c = PX ∧ d = PY ∧ v = k) ∨ (a = PX ∧ b = PY ∧ c = tx ∧ d = ty ∧ v = D - k) ∨ (a = PX ∧ b = PY ∧ c = SX ∧ d = SY ∧ v = e) →
      Calls Try.prog 21 #[.agg #[.int .i16 a, .int .i16 b], .agg #[.int .i16 c, .int .i16 d]] w (Gives (.int .i64 v) w))
    (h4 : ∀ w a b c d v, (a = fx ∧ b = fy ∧ v = M + N ∧ c = QX ∧ d = QY) ∨ (a = PX ∧ b = PY ∧ v = 1 ∧ c = SX ∧ d = SY) →
      Calls Try.prog 24 #[.agg #[.int .i16 a, .int .i16 b], .agg #[.int .i16 tx, .int .i16 ty], .int .i64 v] w (Gives (.agg #[.int .i16 c, .int .i16 d]) w)) :
    Calls Try.prog 12 #[.agg #[.int .i16 fx, .int .i16 fy], .agg #[.int .i16 tx, .int .i16 ty], .int .i64 m, .int .i64 n] w (Gives (.bool true) w) := by
  have K0 := Lib.hid h0
  have K1 := Lib.hid h1
  have K2 := Lib.hid h2
  have K3 := Lib.hid h3
  have K4 := Lib.hid h4
  clear h0 h1 h2 h3 h4
  go_enter Try.func12, Try.ntmps12
  go_wp2_with fail
  refine (K0.out _).mono ?_
  rintro e w' ⟨rfl, z1, rfl⟩
  have q1_0_0 : z1.i.cell? ⟨w.heap.size, 0, none⟩ = some (.int .i16 fx) := by rw [z1.cell (by simp <;> omega)]; simp [go_sem]
  have q1_0_1 : z1.i.cell? ⟨w.heap.size, 1, none⟩ = some (.int .i16 fy) := by rw [z1.cell (by simp <;> omega)]; simp [go_sem]
  have q1_1_0 : z1.i.cell? ⟨w.heap.size + 1, 0, none⟩ = some (.int .i16 tx) := by rw [z1.cell (by simp <;> omega)]; simp [go_sem]
  have q1_1_1 : z1.i.cell? ⟨w.heap.size + 1, 1, none⟩ = some (.int .i16 ty) := by rw [z1.cell (by simp <;> omega)]; simp [go_sem]
  have sz1 := z1.size
  simp at sz1
  have l1_0 : w.heap.size < z1.i.heap.size := by omega
  have l1_1 : w.heap.size + 1 < z1.i.heap.size := by omega
  have bW1 : Below w.heap.size w z1.i := (((Below.refl _ w).alloc (by simp <;> omega) _).alloc (by simp <;> omega) _).trans (z1.h.mono (by simp <;> omega))
  clear sz1
  generalize z1.i = Z1 at *
  clear z1
  go_wp2_with fail
  refine (K1.out _).mono ?_
  rintro e w' ⟨rfl, z2, rfl⟩
  have q2_0_0 : z2.i.cell? ⟨w.heap.size, 0, none⟩ = some (.int .i16 fx) := by rw [z2.cell l1_0]; exact q1_0_0
  have q2_0_1 : z2.i.cell? ⟨w.heap.size, 1, none⟩ = some (.int .i16 fy) := by rw [z2.cell l1_0]; exact q1_0_1
  have q2_1_0 : z2.i.cell? ⟨w.heap.size + 1, 0, none⟩ = some (.int .i16 tx) := by rw [z2.cell l1_1]; exact q1_1_0
  have q2_1_1 : z2.i.cell? ⟨w.heap.size + 1, 1, none⟩ = some (.int .i16 ty) := by rw [z2.cell l1_1]; exact q1_1_1
  have sz2 := z2.size
  have l2_0 : w.heap.size < z2.i.heap.size := by omega
  have l2_1 : w.heap.size + 1 < z2.i.heap.size := by omega
  have bW2 : Below w.heap.size w z2.i := bW1.trans (z2.h.mono bW1.size)
  clear sz2 q1_0_0 q1_0_1 q1_1_0 q1_1_1 l1_0 l1_1 bW1
  generalize z2.i = Z2 at *
  clear z2
  go_wp2_with fail
  refine (K2.out _).mono ?_
  rintro e w' ⟨rfl, z3, rfl⟩
  have q3_0_0 : z3.i.cell? ⟨w.heap.size, 0, none⟩ = some (.int .i16 fx) := by rw [z3.cell (by simp; omega), World.cell?_alloc_lt _ _ _ (by simpa using l2_0)]; exact q2_0_0
  have q3_0_1 : z3.i.cell? ⟨w.heap.size, 1, none⟩ = some (.int .i16 fy) := by rw [z3.cell (by simp; omega), World.cell?_alloc_lt _ _ _ (by simpa using l2_0)]; exact q2_0_1
  have q3_1_0 : z3.i.cell? ⟨w.heap.size + 1, 0, none⟩ = some (.int .i16 tx) := by rw [z3.cell (by simp; omega), World.cell?_alloc_lt _ _ _ (by simpa using l2_1)]; exact q2_1_0
  have q3_1_1 : z3.i.cell? ⟨w.heap.size + 1, 1, none⟩ = some (.int .i16 ty) := by rw [z3.cell (by simp; omega), World.cell?_alloc_lt _ _ _ (by simpa using l2_1)]; exact q2_1_1
  have q3_2_0 : z3.i.cell? ⟨Z2.heap.size, 0, none⟩ = some (.int .i16 PX) := by rw [z3.cell (by simp)]; simp [go_sem]
  have q3_2_1 : z3.i.cell? ⟨Z2.heap.size, 1, none⟩ = some (.int .i16 PY) := by rw [z3.cell (by simp)]; simp [go_sem]
  have sz3 := z3.size
  simp at sz3
  have l3_0 : w.heap.size < z3.i.heap.size := by omega
  have l3_1 : w.heap.size + 1 < z3.i.heap.size := by omega
  have l3_2 : Z2.heap.size < z3.i.heap.size := by omega
  have bW3 : Below w.heap.size w z3.i := (bW2.alloc bW2.size _).trans (z3.h.mono (Nat.le_trans bW2.size (by simp)))
  clear sz3 q2_0_0 q2_0_1 q2_1_0 q2_1_1 l2_0 l2_1 bW2
  generalize Z2.heap.size = b3 at *
  generalize z3.i = Z3 at *
  clear z3
  go_wp2_with fail
  have m0 : w.heap.size < Z3.heap.size + 1 := by omega
  have m1 : w.heap.size + 1 < Z3.heap.size + 1 := by omega
  have m2 : b3 < Z3.heap.size + 1 := by omega
  refine wp_region_bw (Z3.heap.size + 1) _ (Below.refl _ _) (by kernel_rfl) (by kernel_rfl) ?_
  repeat (go_big_quiet_step ((first
    | (go_at_call 21; exact Calls.bw_of (by simp) (K3.out _ _ _ _ _ _ (by first | exact .inl ⟨rfl, rfl, rfl, rfl, rfl⟩ | exact .inr (.inl ⟨rfl, rfl, rfl, rfl, rfl⟩) | exact .inr (.inr ⟨rfl, rfl, rfl, rfl, rfl⟩))))
    | (go_at_call 24; exact Calls.bw_of (by simp) (K4.out _ _ _ _ _ _ (by first | exact .inl ⟨rfl, rfl, rfl, rfl, rfl⟩ | exact .inr ⟨rfl, rfl, rfl, rfl, rfl⟩)))
    | (go_at_call 23; exact Calls.bw_of (by simp) (lives_any _)))))
  refine wpQuiet_nil ?_
  intro x
  go_wp2_with fail
  refine wp_region_bw (Z3.heap.size + 1) _ x.h (by kernel_rfl) (by kernel_rfl) ?_
  repeat (go_big_quiet_step ((first
    | (go_at_call 21; exact Calls.bw_of (by simp) (K3.out _ _ _ _ _ _ (by first | exact .inl ⟨rfl, rfl, rfl, rfl, rfl⟩ | exact .inr (.inl ⟨rfl, rfl, rfl, rfl, rfl⟩) | exact .inr (.inr ⟨rfl, rfl, rfl, rfl, rfl⟩))))
    | (go_at_call 24; exact Calls.bw_of (by simp) (K4.out _ _ _ _ _ _ (by first | exact .inl ⟨rfl, rfl, rfl, rfl, rfl⟩ | exact .inr ⟨rfl, rfl, rfl, rfl, rfl⟩)))
    | (go_at_call 23; exact Calls.bw_of (by simp) (lives_any _)))))
  refine wpQuiet_nil ?_
  intro y
  go_wp2_with fail
  go_ret
  exact gives_of_eq rfl ((bW3.alloc bW3.size _).trans (y.h.mono (Nat.le_succ_of_le bW3.size)))
end Go.Proofs.Ytilimgjmiijkiaa
