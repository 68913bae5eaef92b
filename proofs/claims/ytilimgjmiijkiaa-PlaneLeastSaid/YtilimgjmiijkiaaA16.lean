/- The walk of PlaneLeast: what each side and each call gives decides the answer. -/
import Derived.Test.YtilimgjmiijkiaaL
import Derived.Test.YtilimgjmiijkiaaA4
import Derived.Test.YtilimgjmiijkiaaA14
import Derived.Test.YtilimgjmiijkiaaA15
namespace Go.Proofs.Ytilimgjmiijkiaa
open Go.ChangeShapes Go.WideShapes Go.ChangeAt Go.RowKit Go.Joins
attribute [local go_sem] BW.cell BW.frozen
set_option linter.unusedVariables false

set_option maxHeartbeats 8000000 in
theorem least_in (x y r u v A B C D d R : Int) (w : World)
    (hb : ∀ w, Calls Try.prog 43 #[.agg #[.int .i16 x, .int .i16 y], .int .i64 r] w (Gives (.agg #[.int .i16 A, .int .i16 B, .int .i16 C, .int .i16 D]) w))
    (hp : ∀ w, Calls Try.prog 44 #[.agg #[.int .i16 x, .int .i16 y], .agg #[.int .i16 A, .int .i16 B, .int .i16 C, .int .i16 D]] w (Gives (.bool true) w))
    (hd : ∀ w, Calls Try.prog 21 #[.agg #[.int .i16 x, .int .i16 y], .agg #[.int .i16 u, .int .i16 v]] w (Gives (.int .i64 d) w))
    (hq : ∀ w, d ≤ r → Calls Try.prog 44 #[.agg #[.int .i16 u, .int .i16 v], .agg #[.int .i16 A, .int .i16 B, .int .i16 C, .int .i16 D]] w (Gives (.bool true) w)) (f1 : d ≤ r) (f2 : 0 ≤ r) (f3 : R = r) (f4 : ¬ r < 0)
    (eA : A = -32768 ∨ (¬ A = -32768 ∧ ∀ w, Calls Try.prog 21 #[.agg #[.int .i16 x, .int .i16 y], .agg #[.int .i16 A, .int .i16 y]] w (Gives (.int .i64 R) w)))
    (eC : C = 32767 ∨ (¬ C = 32767 ∧ ∀ w, Calls Try.prog 21 #[.agg #[.int .i16 x, .int .i16 y], .agg #[.int .i16 C, .int .i16 y]] w (Gives (.int .i64 R) w)))
    (eB : B = -32768 ∨ (¬ B = -32768 ∧ ∀ w, Calls Try.prog 21 #[.agg #[.int .i16 x, .int .i16 y], .agg #[.int .i16 x, .int .i16 B]] w (Gives (.int .i64 R) w)))
    (eD : D = 32767 ∨ (¬ D = 32767 ∧ ∀ w, Calls Try.prog 21 #[.agg #[.int .i16 x, .int .i16 y], .agg #[.int .i16 x, .int .i16 D]] w (Gives (.int .i64 R) w))) :
    Calls Try.prog 18 #[.agg #[.int .i16 x, .int .i16 y], .int .i64 r, .agg #[.int .i16 u, .int .i16 v]] w (Gives (.bool true) w) := by
  have HB := Lib.hid hb
  have HP := Lib.hid hp
  have HD := Lib.hid hd
  have HQ := Lib.hid hq
  clear hb hp hd hq
  go_enter Try.func18, Try.ntmps18
  go_wp2_with fail
  refine (HB.out _).mono ?_
  rintro e w' ⟨rfl, z, rfl⟩
  have q0 : z.i.cell? ⟨w.heap.size, 0, none⟩ = some (.int .i16 x) := by rw [z.cell (by simp; omega)]; simp [go_sem]
  have q1 : z.i.cell? ⟨w.heap.size, 1, none⟩ = some (.int .i16 y) := by rw [z.cell (by simp; omega)]; simp [go_sem]
  have q2 : z.i.cell? ⟨w.heap.size + 1, 0, none⟩ = some (.int .i16 u) := by rw [z.cell (by simp)]; simp [go_sem]
  have q3 : z.i.cell? ⟨w.heap.size + 1, 1, none⟩ = some (.int .i16 v) := by rw [z.cell (by simp)]; simp [go_sem]
  have l1 : w.heap.size + 1 < z.i.heap.size := by have := z.size; simp at this; omega
  have l0 : w.heap.size < z.i.heap.size := by omega
  have l2 : w.heap.size < z.i.heap.size + 1 := by omega
  have l3 : w.heap.size + 1 < z.i.heap.size + 1 := by omega
  have bZ : Below w.heap.size w z.i := (((Below.refl _ w).alloc (Nat.le_refl _) _).alloc (by simp) _).trans (z.h.mono (by simp; omega))
  generalize z.i = Z at *
  clear z
  go_wp2_with fail
  refine (Calls.bw_at (B := Z.heap.size + 1) (Below.refl _ _) (by simp) (HP.out _)).mono ?_
  rintro e w' ⟨rfl, y1, rfl⟩
  go_wp2_with fail
  refine (Calls.bw_of (by simp) (HD.out _)).mono ?_
  rintro e w' ⟨rfl, y2, rfl⟩
  go_wp2_with fail
  refine (Calls.bw_of (by simp) (HQ.out _ f1)).mono ?_
  rintro e w' ⟨rfl, y3, rfl⟩
  go_wp2_with fail
  rcases eA with fA | ⟨fA, kA⟩
  · refine wp_region_bw (Z.heap.size + 1) _ y3.h (by kernel_rfl) (by kernel_rfl) ?_
    repeat (go_big_quiet_step ((first
      | (go_at_call 41; exact Calls.bw_of (by simp) (at_any _ _ _)))))
    refine wpQuiet_nil ?_
    intro x0
    go_wp2_with fail
    rcases eC with fC | ⟨fC, kC⟩
    · refine wp_region_bw (Z.heap.size + 1) _ x0.h (by kernel_rfl) (by kernel_rfl) ?_
      repeat (go_big_quiet_step ((first
        | (go_at_call 41; exact Calls.bw_of (by simp) (at_any _ _ _)))))
      refine wpQuiet_nil ?_
      intro x1
      go_wp2_with fail
      rcases eB with fB | ⟨fB, kB⟩
      · refine wp_region_bw (Z.heap.size + 1) _ x1.h (by kernel_rfl) (by kernel_rfl) ?_
        repeat (go_big_quiet_step ((first
          | (go_at_call 41; exact Calls.bw_of (by simp) (at_any _ _ _)))))
        refine wpQuiet_nil ?_
        intro x2
        go_wp2_with fail
        rcases eD with fD | ⟨fD, kD⟩
        · refine wp_region_bw (Z.heap.size + 1) _ x2.h (by kernel_rfl) (by kernel_rfl) ?_
          repeat (go_big_quiet_step ((first
            | (go_at_call 41; exact Calls.bw_of (by simp) (at_any _ _ _)))))
          refine wpQuiet_nil ?_
          intro x3
          go_wp2_with fail
          refine (Calls.bw_of (by simp) (lives_any _)).mono ?_
          rintro e w' ⟨rfl, xl, rfl⟩
          go_wp2
          go_ret
          exact gives_of_eq rfl ((bZ.alloc bZ.size _).trans (xl.h.mono (Nat.le_succ_of_le bZ.size)))
        · have bD : (D == 32767) = false := by simpa using fD
          refine wp_region_bw (Z.heap.size + 1) _ x2.h (by kernel_rfl) (by kernel_rfl) ?_
          repeat (go_big_quiet_step ((first
            | (go_at_call 41; exact Calls.bw_of (by simp) (at_any _ _ _))
            | (go_at_call 21; exact Calls.bw_of (by simp) (kD _)))))
          refine wpQuiet_nil ?_
          intro x3
          go_wp2_with fail
          refine (Calls.bw_of (by simp) (lives_any _)).mono ?_
          rintro e w' ⟨rfl, xl, rfl⟩
          go_wp2
          go_ret
          exact gives_of_eq rfl ((bZ.alloc bZ.size _).trans (xl.h.mono (Nat.le_succ_of_le bZ.size)))
      · have bB : (B == -32768) = false := by simpa using fB
        refine wp_region_bw (Z.heap.size + 1) _ x1.h (by kernel_rfl) (by kernel_rfl) ?_
        repeat (go_big_quiet_step ((first
          | (go_at_call 41; exact Calls.bw_of (by simp) (at_any _ _ _))
          | (go_at_call 21; exact Calls.bw_of (by simp) (kB _)))))
        refine wpQuiet_nil ?_
        intro x2
        go_wp2_with fail
        rcases eD with fD | ⟨fD, kD⟩
        · refine wp_region_bw (Z.heap.size + 1) _ x2.h (by kernel_rfl) (by kernel_rfl) ?_
          repeat (go_big_quiet_step ((first
            | (go_at_call 41; exact Calls.bw_of (by simp) (at_any _ _ _)))))
          refine wpQuiet_nil ?_
          intro x3
          go_wp2_with fail
          refine (Calls.bw_of (by simp) (lives_any _)).mono ?_
          rintro e w' ⟨rfl, xl, rfl⟩
          go_wp2
          go_ret
          exact gives_of_eq rfl ((bZ.alloc bZ.size _).trans (xl.h.mono (Nat.le_succ_of_le bZ.size)))
        · have bD : (D == 32767) = false := by simpa using fD
          refine wp_region_bw (Z.heap.size + 1) _ x2.h (by kernel_rfl) (by kernel_rfl) ?_
          repeat (go_big_quiet_step ((first
            | (go_at_call 41; exact Calls.bw_of (by simp) (at_any _ _ _))
            | (go_at_call 21; exact Calls.bw_of (by simp) (kD _)))))
          refine wpQuiet_nil ?_
          intro x3
          go_wp2_with fail
          refine (Calls.bw_of (by simp) (lives_any _)).mono ?_
          rintro e w' ⟨rfl, xl, rfl⟩
          go_wp2
          go_ret
          exact gives_of_eq rfl ((bZ.alloc bZ.size _).trans (xl.h.mono (Nat.le_succ_of_le bZ.size)))
    · have bC : (C == 32767) = false := by simpa using fC
      refine wp_region_bw (Z.heap.size + 1) _ x0.h (by kernel_rfl) (by kernel_rfl) ?_
      repeat (go_big_quiet_step ((first
        | (go_at_call 41; exact Calls.bw_of (by simp) (at_any _ _ _))
        | (go_at_call 21; exact Calls.bw_of (by simp) (kC _)))))
      refine wpQuiet_nil ?_
      intro x1
      go_wp2_with fail
      rcases eB with fB | ⟨fB, kB⟩
      · refine wp_region_bw (Z.heap.size + 1) _ x1.h (by kernel_rfl) (by kernel_rfl) ?_
        repeat (go_big_quiet_step ((first
          | (go_at_call 41; exact Calls.bw_of (by simp) (at_any _ _ _)))))
        refine wpQuiet_nil ?_
        intro x2
        go_wp2_with fail
        rcases eD with fD | ⟨fD, kD⟩
        · refine wp_region_bw (Z.heap.size + 1) _ x2.h (by kernel_rfl) (by kernel_rfl) ?_
          repeat (go_big_quiet_step ((first
            | (go_at_call 41; exact Calls.bw_of (by simp) (at_any _ _ _)))))
          refine wpQuiet_nil ?_
          intro x3
          go_wp2_with fail
          refine (Calls.bw_of (by simp) (lives_any _)).mono ?_
          rintro e w' ⟨rfl, xl, rfl⟩
          go_wp2
          go_ret
          exact gives_of_eq rfl ((bZ.alloc bZ.size _).trans (xl.h.mono (Nat.le_succ_of_le bZ.size)))
        · have bD : (D == 32767) = false := by simpa using fD
          refine wp_region_bw (Z.heap.size + 1) _ x2.h (by kernel_rfl) (by kernel_rfl) ?_
          repeat (go_big_quiet_step ((first
            | (go_at_call 41; exact Calls.bw_of (by simp) (at_any _ _ _))
            | (go_at_call 21; exact Calls.bw_of (by simp) (kD _)))))
          refine wpQuiet_nil ?_
          intro x3
          go_wp2_with fail
          refine (Calls.bw_of (by simp) (lives_any _)).mono ?_
          rintro e w' ⟨rfl, xl, rfl⟩
          go_wp2
          go_ret
          exact gives_of_eq rfl ((bZ.alloc bZ.size _).trans (xl.h.mono (Nat.le_succ_of_le bZ.size)))
      · have bB : (B == -32768) = false := by simpa using fB
        refine wp_region_bw (Z.heap.size + 1) _ x1.h (by kernel_rfl) (by kernel_rfl) ?_
        repeat (go_big_quiet_step ((first
          | (go_at_call 41; exact Calls.bw_of (by simp) (at_any _ _ _))
          | (go_at_call 21; exact Calls.bw_of (by simp) (kB _)))))
        refine wpQuiet_nil ?_
        intro x2
        go_wp2_with fail
        rcases eD with fD | ⟨fD, kD⟩
        · refine wp_region_bw (Z.heap.size + 1) _ x2.h (by kernel_rfl) (by kernel_rfl) ?_
          repeat (go_big_quiet_step ((first
            | (go_at_call 41; exact Calls.bw_of (by simp) (at_any _ _ _)))))
          refine wpQuiet_nil ?_
          intro x3
          go_wp2_with fail
          refine (Calls.bw_of (by simp) (lives_any _)).mono ?_
          rintro e w' ⟨rfl, xl, rfl⟩
          go_wp2
          go_ret
          exact gives_of_eq rfl ((bZ.alloc bZ.size _).trans (xl.h.mono (Nat.le_succ_of_le bZ.size)))
        · have bD : (D == 32767) = false := by simpa using fD
          refine wp_region_bw (Z.heap.size + 1) _ x2.h (by kernel_rfl) (by kernel_rfl) ?_
          repeat (go_big_quiet_step ((first
            | (go_at_call 41; exact Calls.bw_of (by simp) (at_any _ _ _))
            | (go_at_call 21; exact Calls.bw_of (by simp) (kD _)))))
          refine wpQuiet_nil ?_
          intro x3
          go_wp2_with fail
          refine (Calls.bw_of (by simp) (lives_any _)).mono ?_
          rintro e w' ⟨rfl, xl, rfl⟩
          go_wp2
          go_ret
          exact gives_of_eq rfl ((bZ.alloc bZ.size _).trans (xl.h.mono (Nat.le_succ_of_le bZ.size)))
  · have bA : (A == -32768) = false := by simpa using fA
    refine wp_region_bw (Z.heap.size + 1) _ y3.h (by kernel_rfl) (by kernel_rfl) ?_
    repeat (go_big_quiet_step ((first
      | (go_at_call 41; exact Calls.bw_of (by simp) (at_any _ _ _))
      | (go_at_call 21; exact Calls.bw_of (by simp) (kA _)))))
    refine wpQuiet_nil ?_
    intro x0
    go_wp2_with fail
    rcases eC with fC | ⟨fC, kC⟩
    · refine wp_region_bw (Z.heap.size + 1) _ x0.h (by kernel_rfl) (by kernel_rfl) ?_
      repeat (go_big_quiet_step ((first
        | (go_at_call 41; exact Calls.bw_of (by simp) (at_any _ _ _)))))
      refine wpQuiet_nil ?_
      intro x1
      go_wp2_with fail
      rcases eB with fB | ⟨fB, kB⟩
      · refine wp_region_bw (Z.heap.size + 1) _ x1.h (by kernel_rfl) (by kernel_rfl) ?_
        repeat (go_big_quiet_step ((first
          | (go_at_call 41; exact Calls.bw_of (by simp) (at_any _ _ _)))))
        refine wpQuiet_nil ?_
        intro x2
        go_wp2_with fail
        rcases eD with fD | ⟨fD, kD⟩
        · refine wp_region_bw (Z.heap.size + 1) _ x2.h (by kernel_rfl) (by kernel_rfl) ?_
          repeat (go_big_quiet_step ((first
            | (go_at_call 41; exact Calls.bw_of (by simp) (at_any _ _ _)))))
          refine wpQuiet_nil ?_
          intro x3
          go_wp2_with fail
          refine (Calls.bw_of (by simp) (lives_any _)).mono ?_
          rintro e w' ⟨rfl, xl, rfl⟩
          go_wp2
          go_ret
          exact gives_of_eq rfl ((bZ.alloc bZ.size _).trans (xl.h.mono (Nat.le_succ_of_le bZ.size)))
        · have bD : (D == 32767) = false := by simpa using fD
          refine wp_region_bw (Z.heap.size + 1) _ x2.h (by kernel_rfl) (by kernel_rfl) ?_
          repeat (go_big_quiet_step ((first
            | (go_at_call 41; exact Calls.bw_of (by simp) (at_any _ _ _))
            | (go_at_call 21; exact Calls.bw_of (by simp) (kD _)))))
          refine wpQuiet_nil ?_
          intro x3
          go_wp2_with fail
          refine (Calls.bw_of (by simp) (lives_any _)).mono ?_
          rintro e w' ⟨rfl, xl, rfl⟩
          go_wp2
          go_ret
          exact gives_of_eq rfl ((bZ.alloc bZ.size _).trans (xl.h.mono (Nat.le_succ_of_le bZ.size)))
      · have bB : (B == -32768) = false := by simpa using fB
        refine wp_region_bw (Z.heap.size + 1) _ x1.h (by kernel_rfl) (by kernel_rfl) ?_
        repeat (go_big_quiet_step ((first
          | (go_at_call 41; exact Calls.bw_of (by simp) (at_any _ _ _))
          | (go_at_call 21; exact Calls.bw_of (by simp) (kB _)))))
        refine wpQuiet_nil ?_
        intro x2
        go_wp2_with fail
        rcases eD with fD | ⟨fD, kD⟩
        · refine wp_region_bw (Z.heap.size + 1) _ x2.h (by kernel_rfl) (by kernel_rfl) ?_
          repeat (go_big_quiet_step ((first
            | (go_at_call 41; exact Calls.bw_of (by simp) (at_any _ _ _)))))
          refine wpQuiet_nil ?_
          intro x3
          go_wp2_with fail
          refine (Calls.bw_of (by simp) (lives_any _)).mono ?_
          rintro e w' ⟨rfl, xl, rfl⟩
          go_wp2
          go_ret
          exact gives_of_eq rfl ((bZ.alloc bZ.size _).trans (xl.h.mono (Nat.le_succ_of_le bZ.size)))
        · have bD : (D == 32767) = false := by simpa using fD
          refine wp_region_bw (Z.heap.size + 1) _ x2.h (by kernel_rfl) (by kernel_rfl) ?_
          repeat (go_big_quiet_step ((first
            | (go_at_call 41; exact Calls.bw_of (by simp) (at_any _ _ _))
            | (go_at_call 21; exact Calls.bw_of (by simp) (kD _)))))
          refine wpQuiet_nil ?_
          intro x3
          go_wp2_with fail
          refine (Calls.bw_of (by simp) (lives_any _)).mono ?_
          rintro e w' ⟨rfl, xl, rfl⟩
          go_wp2
          go_ret
          exact gives_of_eq rfl ((bZ.alloc bZ.size _).trans (xl.h.mono (Nat.le_succ_of_le bZ.size)))
    · have bC : (C == 32767) = false := by simpa using fC
      refine wp_region_bw (Z.heap.size + 1) _ x0.h (by kernel_rfl) (by kernel_rfl) ?_
      repeat (go_big_quiet_step ((first
        | (go_at_call 41; exact Calls.bw_of (by simp) (at_any _ _ _))
        | (go_at_call 21; exact Calls.bw_of (by simp) (kC _)))))
      refine wpQuiet_nil ?_
      intro x1
      go_wp2_with fail
      rcases eB with fB | ⟨fB, kB⟩
      · refine wp_region_bw (Z.heap.size + 1) _ x1.h (by kernel_rfl) (by kernel_rfl) ?_
        repeat (go_big_quiet_step ((first
          | (go_at_call 41; exact Calls.bw_of (by simp) (at_any _ _ _)))))
        refine wpQuiet_nil ?_
        intro x2
        go_wp2_with fail
        rcases eD with fD | ⟨fD, kD⟩
        · refine wp_region_bw (Z.heap.size + 1) _ x2.h (by kernel_rfl) (by kernel_rfl) ?_
          repeat (go_big_quiet_step ((first
            | (go_at_call 41; exact Calls.bw_of (by simp) (at_any _ _ _)))))
          refine wpQuiet_nil ?_
          intro x3
          go_wp2_with fail
          refine (Calls.bw_of (by simp) (lives_any _)).mono ?_
          rintro e w' ⟨rfl, xl, rfl⟩
          go_wp2
          go_ret
          exact gives_of_eq rfl ((bZ.alloc bZ.size _).trans (xl.h.mono (Nat.le_succ_of_le bZ.size)))
        · have bD : (D == 32767) = false := by simpa using fD
          refine wp_region_bw (Z.heap.size + 1) _ x2.h (by kernel_rfl) (by kernel_rfl) ?_
          repeat (go_big_quiet_step ((first
            | (go_at_call 41; exact Calls.bw_of (by simp) (at_any _ _ _))
            | (go_at_call 21; exact Calls.bw_of (by simp) (kD _)))))
          refine wpQuiet_nil ?_
          intro x3
          go_wp2_with fail
          refine (Calls.bw_of (by simp) (lives_any _)).mono ?_
          rintro e w' ⟨rfl, xl, rfl⟩
          go_wp2
          go_ret
          exact gives_of_eq rfl ((bZ.alloc bZ.size _).trans (xl.h.mono (Nat.le_succ_of_le bZ.size)))
      · have bB : (B == -32768) = false := by simpa using fB
        refine wp_region_bw (Z.heap.size + 1) _ x1.h (by kernel_rfl) (by kernel_rfl) ?_
        repeat (go_big_quiet_step ((first
          | (go_at_call 41; exact Calls.bw_of (by simp) (at_any _ _ _))
          | (go_at_call 21; exact Calls.bw_of (by simp) (kB _)))))
        refine wpQuiet_nil ?_
        intro x2
        go_wp2_with fail
        rcases eD with fD | ⟨fD, kD⟩
        · refine wp_region_bw (Z.heap.size + 1) _ x2.h (by kernel_rfl) (by kernel_rfl) ?_
          repeat (go_big_quiet_step ((first
            | (go_at_call 41; exact Calls.bw_of (by simp) (at_any _ _ _)))))
          refine wpQuiet_nil ?_
          intro x3
          go_wp2_with fail
          refine (Calls.bw_of (by simp) (lives_any _)).mono ?_
          rintro e w' ⟨rfl, xl, rfl⟩
          go_wp2
          go_ret
          exact gives_of_eq rfl ((bZ.alloc bZ.size _).trans (xl.h.mono (Nat.le_succ_of_le bZ.size)))
        · have bD : (D == 32767) = false := by simpa using fD
          refine wp_region_bw (Z.heap.size + 1) _ x2.h (by kernel_rfl) (by kernel_rfl) ?_
          repeat (go_big_quiet_step ((first
            | (go_at_call 41; exact Calls.bw_of (by simp) (at_any _ _ _))
            | (go_at_call 21; exact Calls.bw_of (by simp) (kD _)))))
          refine wpQuiet_nil ?_
          intro x3
          go_wp2_with fail
          refine (Calls.bw_of (by simp) (lives_any _)).mono ?_
          rintro e w' ⟨rfl, xl, rfl⟩
          go_wp2
          go_ret
          exact gives_of_eq rfl ((bZ.alloc bZ.size _).trans (xl.h.mono (Nat.le_succ_of_le bZ.size)))

set_option maxHeartbeats 8000000 in
theorem least_out (x y r u v A B C D d R : Int) (w : World)
    (hb : ∀ w, Calls Try.prog 43 #[.agg #[.int .i16 x, .int .i16 y], .int .i64 r] w (Gives (.agg #[.int .i16 A, .int .i16 B, .int .i16 C, .int .i16 D]) w))
    (hp : ∀ w, Calls Try.prog 44 #[.agg #[.int .i16 x, .int .i16 y], .agg #[.int .i16 A, .int .i16 B, .int .i16 C, .int .i16 D]] w (Gives (.bool true) w))
    (hd : ∀ w, Calls Try.prog 21 #[.agg #[.int .i16 x, .int .i16 y], .agg #[.int .i16 u, .int .i16 v]] w (Gives (.int .i64 d) w))
    (hq : ∀ w, d ≤ r → Calls Try.prog 44 #[.agg #[.int .i16 u, .int .i16 v], .agg #[.int .i16 A, .int .i16 B, .int .i16 C, .int .i16 D]] w (Gives (.bool true) w)) (f1 : ¬ d ≤ r) (f2 : 0 ≤ r) (f3 : R = r) (f4 : ¬ r < 0)
    (eA : A = -32768 ∨ (¬ A = -32768 ∧ ∀ w, Calls Try.prog 21 #[.agg #[.int .i16 x, .int .i16 y], .agg #[.int .i16 A, .int .i16 y]] w (Gives (.int .i64 R) w)))
    (eC : C = 32767 ∨ (¬ C = 32767 ∧ ∀ w, Calls Try.prog 21 #[.agg #[.int .i16 x, .int .i16 y], .agg #[.int .i16 C, .int .i16 y]] w (Gives (.int .i64 R) w)))
    (eB : B = -32768 ∨ (¬ B = -32768 ∧ ∀ w, Calls Try.prog 21 #[.agg #[.int .i16 x, .int .i16 y], .agg #[.int .i16 x, .int .i16 B]] w (Gives (.int .i64 R) w)))
    (eD : D = 32767 ∨ (¬ D = 32767 ∧ ∀ w, Calls Try.prog 21 #[.agg #[.int .i16 x, .int .i16 y], .agg #[.int .i16 x, .int .i16 D]] w (Gives (.int .i64 R) w))) :
    Calls Try.prog 18 #[.agg #[.int .i16 x, .int .i16 y], .int .i64 r, .agg #[.int .i16 u, .int .i16 v]] w (Gives (.bool true) w) := by
  have HB := Lib.hid hb
  have HP := Lib.hid hp
  have HD := Lib.hid hd
  have HQ := Lib.hid hq
  clear hb hp hd hq
  go_enter Try.func18, Try.ntmps18
  go_wp2_with fail
  refine (HB.out _).mono ?_
  rintro e w' ⟨rfl, z, rfl⟩
  have q0 : z.i.cell? ⟨w.heap.size, 0, none⟩ = some (.int .i16 x) := by rw [z.cell (by simp; omega)]; simp [go_sem]
  have q1 : z.i.cell? ⟨w.heap.size, 1, none⟩ = some (.int .i16 y) := by rw [z.cell (by simp; omega)]; simp [go_sem]
  have q2 : z.i.cell? ⟨w.heap.size + 1, 0, none⟩ = some (.int .i16 u) := by rw [z.cell (by simp)]; simp [go_sem]
  have q3 : z.i.cell? ⟨w.heap.size + 1, 1, none⟩ = some (.int .i16 v) := by rw [z.cell (by simp)]; simp [go_sem]
  have l1 : w.heap.size + 1 < z.i.heap.size := by have := z.size; simp at this; omega
  have l0 : w.heap.size < z.i.heap.size := by omega
  have l2 : w.heap.size < z.i.heap.size + 1 := by omega
  have l3 : w.heap.size + 1 < z.i.heap.size + 1 := by omega
  have bZ : Below w.heap.size w z.i := (((Below.refl _ w).alloc (Nat.le_refl _) _).alloc (by simp) _).trans (z.h.mono (by simp; omega))
  generalize z.i = Z at *
  clear z
  go_wp2_with fail
  refine (Calls.bw_at (B := Z.heap.size + 1) (Below.refl _ _) (by simp) (HP.out _)).mono ?_
  rintro e w' ⟨rfl, y1, rfl⟩
  go_wp2_with fail
  refine (Calls.bw_of (by simp) (HD.out _)).mono ?_
  rintro e w' ⟨rfl, y2, rfl⟩
  go_wp2_with fail

  rcases eA with fA | ⟨fA, kA⟩
  · refine wp_region_bw (Z.heap.size + 1) _ y2.h (by kernel_rfl) (by kernel_rfl) ?_
    repeat (go_big_quiet_step ((first
      | (go_at_call 41; exact Calls.bw_of (by simp) (at_any _ _ _)))))
    refine wpQuiet_nil ?_
    intro x0
    go_wp2_with fail
    rcases eC with fC | ⟨fC, kC⟩
    · refine wp_region_bw (Z.heap.size + 1) _ x0.h (by kernel_rfl) (by kernel_rfl) ?_
      repeat (go_big_quiet_step ((first
        | (go_at_call 41; exact Calls.bw_of (by simp) (at_any _ _ _)))))
      refine wpQuiet_nil ?_
      intro x1
      go_wp2_with fail
      rcases eB with fB | ⟨fB, kB⟩
      · refine wp_region_bw (Z.heap.size + 1) _ x1.h (by kernel_rfl) (by kernel_rfl) ?_
        repeat (go_big_quiet_step ((first
          | (go_at_call 41; exact Calls.bw_of (by simp) (at_any _ _ _)))))
        refine wpQuiet_nil ?_
        intro x2
        go_wp2_with fail
        rcases eD with fD | ⟨fD, kD⟩
        · refine wp_region_bw (Z.heap.size + 1) _ x2.h (by kernel_rfl) (by kernel_rfl) ?_
          repeat (go_big_quiet_step ((first
            | (go_at_call 41; exact Calls.bw_of (by simp) (at_any _ _ _)))))
          refine wpQuiet_nil ?_
          intro x3
          go_wp2_with fail
          refine (Calls.bw_of (by simp) (lives_any _)).mono ?_
          rintro e w' ⟨rfl, xl, rfl⟩
          go_wp2
          go_ret
          exact gives_of_eq rfl ((bZ.alloc bZ.size _).trans (xl.h.mono (Nat.le_succ_of_le bZ.size)))
        · have bD : (D == 32767) = false := by simpa using fD
          refine wp_region_bw (Z.heap.size + 1) _ x2.h (by kernel_rfl) (by kernel_rfl) ?_
          repeat (go_big_quiet_step ((first
            | (go_at_call 41; exact Calls.bw_of (by simp) (at_any _ _ _))
            | (go_at_call 21; exact Calls.bw_of (by simp) (kD _)))))
          refine wpQuiet_nil ?_
          intro x3
          go_wp2_with fail
          refine (Calls.bw_of (by simp) (lives_any _)).mono ?_
          rintro e w' ⟨rfl, xl, rfl⟩
          go_wp2
          go_ret
          exact gives_of_eq rfl ((bZ.alloc bZ.size _).trans (xl.h.mono (Nat.le_succ_of_le bZ.size)))
      · have bB : (B == -32768) = false := by simpa using fB
        refine wp_region_bw (Z.heap.size + 1) _ x1.h (by kernel_rfl) (by kernel_rfl) ?_
        repeat (go_big_quiet_step ((first
          | (go_at_call 41; exact Calls.bw_of (by simp) (at_any _ _ _))
          | (go_at_call 21; exact Calls.bw_of (by simp) (kB _)))))
        refine wpQuiet_nil ?_
        intro x2
        go_wp2_with fail
        rcases eD with fD | ⟨fD, kD⟩
        · refine wp_region_bw (Z.heap.size + 1) _ x2.h (by kernel_rfl) (by kernel_rfl) ?_
          repeat (go_big_quiet_step ((first
            | (go_at_call 41; exact Calls.bw_of (by simp) (at_any _ _ _)))))
          refine wpQuiet_nil ?_
          intro x3
          go_wp2_with fail
          refine (Calls.bw_of (by simp) (lives_any _)).mono ?_
          rintro e w' ⟨rfl, xl, rfl⟩
          go_wp2
          go_ret
          exact gives_of_eq rfl ((bZ.alloc bZ.size _).trans (xl.h.mono (Nat.le_succ_of_le bZ.size)))
        · have bD : (D == 32767) = false := by simpa using fD
          refine wp_region_bw (Z.heap.size + 1) _ x2.h (by kernel_rfl) (by kernel_rfl) ?_
          repeat (go_big_quiet_step ((first
            | (go_at_call 41; exact Calls.bw_of (by simp) (at_any _ _ _))
            | (go_at_call 21; exact Calls.bw_of (by simp) (kD _)))))
          refine wpQuiet_nil ?_
          intro x3
          go_wp2_with fail
          refine (Calls.bw_of (by simp) (lives_any _)).mono ?_
          rintro e w' ⟨rfl, xl, rfl⟩
          go_wp2
          go_ret
          exact gives_of_eq rfl ((bZ.alloc bZ.size _).trans (xl.h.mono (Nat.le_succ_of_le bZ.size)))
    · have bC : (C == 32767) = false := by simpa using fC
      refine wp_region_bw (Z.heap.size + 1) _ x0.h (by kernel_rfl) (by kernel_rfl) ?_
      repeat (go_big_quiet_step ((first
        | (go_at_call 41; exact Calls.bw_of (by simp) (at_any _ _ _))
        | (go_at_call 21; exact Calls.bw_of (by simp) (kC _)))))
      refine wpQuiet_nil ?_
      intro x1
      go_wp2_with fail
      rcases eB with fB | ⟨fB, kB⟩
      · refine wp_region_bw (Z.heap.size + 1) _ x1.h (by kernel_rfl) (by kernel_rfl) ?_
        repeat (go_big_quiet_step ((first
          | (go_at_call 41; exact Calls.bw_of (by simp) (at_any _ _ _)))))
        refine wpQuiet_nil ?_
        intro x2
        go_wp2_with fail
        rcases eD with fD | ⟨fD, kD⟩
        · refine wp_region_bw (Z.heap.size + 1) _ x2.h (by kernel_rfl) (by kernel_rfl) ?_
          repeat (go_big_quiet_step ((first
            | (go_at_call 41; exact Calls.bw_of (by simp) (at_any _ _ _)))))
          refine wpQuiet_nil ?_
          intro x3
          go_wp2_with fail
          refine (Calls.bw_of (by simp) (lives_any _)).mono ?_
          rintro e w' ⟨rfl, xl, rfl⟩
          go_wp2
          go_ret
          exact gives_of_eq rfl ((bZ.alloc bZ.size _).trans (xl.h.mono (Nat.le_succ_of_le bZ.size)))
        · have bD : (D == 32767) = false := by simpa using fD
          refine wp_region_bw (Z.heap.size + 1) _ x2.h (by kernel_rfl) (by kernel_rfl) ?_
          repeat (go_big_quiet_step ((first
            | (go_at_call 41; exact Calls.bw_of (by simp) (at_any _ _ _))
            | (go_at_call 21; exact Calls.bw_of (by simp) (kD _)))))
          refine wpQuiet_nil ?_
          intro x3
          go_wp2_with fail
          refine (Calls.bw_of (by simp) (lives_any _)).mono ?_
          rintro e w' ⟨rfl, xl, rfl⟩
          go_wp2
          go_ret
          exact gives_of_eq rfl ((bZ.alloc bZ.size _).trans (xl.h.mono (Nat.le_succ_of_le bZ.size)))
      · have bB : (B == -32768) = false := by simpa using fB
        refine wp_region_bw (Z.heap.size + 1) _ x1.h (by kernel_rfl) (by kernel_rfl) ?_
        repeat (go_big_quiet_step ((first
          | (go_at_call 41; exact Calls.bw_of (by simp) (at_any _ _ _))
          | (go_at_call 21; exact Calls.bw_of (by simp) (kB _)))))
        refine wpQuiet_nil ?_
        intro x2
        go_wp2_with fail
        rcases eD with fD | ⟨fD, kD⟩
        · refine wp_region_bw (Z.heap.size + 1) _ x2.h (by kernel_rfl) (by kernel_rfl) ?_
          repeat (go_big_quiet_step ((first
            | (go_at_call 41; exact Calls.bw_of (by simp) (at_any _ _ _)))))
          refine wpQuiet_nil ?_
          intro x3
          go_wp2_with fail
          refine (Calls.bw_of (by simp) (lives_any _)).mono ?_
          rintro e w' ⟨rfl, xl, rfl⟩
          go_wp2
          go_ret
          exact gives_of_eq rfl ((bZ.alloc bZ.size _).trans (xl.h.mono (Nat.le_succ_of_le bZ.size)))
        · have bD : (D == 32767) = false := by simpa using fD
          refine wp_region_bw (Z.heap.size + 1) _ x2.h (by kernel_rfl) (by kernel_rfl) ?_
          repeat (go_big_quiet_step ((first
            | (go_at_call 41; exact Calls.bw_of (by simp) (at_any _ _ _))
            | (go_at_call 21; exact Calls.bw_of (by simp) (kD _)))))
          refine wpQuiet_nil ?_
          intro x3
          go_wp2_with fail
          refine (Calls.bw_of (by simp) (lives_any _)).mono ?_
          rintro e w' ⟨rfl, xl, rfl⟩
          go_wp2
          go_ret
          exact gives_of_eq rfl ((bZ.alloc bZ.size _).trans (xl.h.mono (Nat.le_succ_of_le bZ.size)))
  · have bA : (A == -32768) = false := by simpa using fA
    refine wp_region_bw (Z.heap.size + 1) _ y2.h (by kernel_rfl) (by kernel_rfl) ?_
    repeat (go_big_quiet_step ((first
      | (go_at_call 41; exact Calls.bw_of (by simp) (at_any _ _ _))
      | (go_at_call 21; exact Calls.bw_of (by simp) (kA _)))))
    refine wpQuiet_nil ?_
    intro x0
    go_wp2_with fail
    rcases eC with fC | ⟨fC, kC⟩
    · refine wp_region_bw (Z.heap.size + 1) _ x0.h (by kernel_rfl) (by kernel_rfl) ?_
      repeat (go_big_quiet_step ((first
        | (go_at_call 41; exact Calls.bw_of (by simp) (at_any _ _ _)))))
      refine wpQuiet_nil ?_
      intro x1
      go_wp2_with fail
      rcases eB with fB | ⟨fB, kB⟩
      · refine wp_region_bw (Z.heap.size + 1) _ x1.h (by kernel_rfl) (by kernel_rfl) ?_
        repeat (go_big_quiet_step ((first
          | (go_at_call 41; exact Calls.bw_of (by simp) (at_any _ _ _)))))
        refine wpQuiet_nil ?_
        intro x2
        go_wp2_with fail
        rcases eD with fD | ⟨fD, kD⟩
        · refine wp_region_bw (Z.heap.size + 1) _ x2.h (by kernel_rfl) (by kernel_rfl) ?_
          repeat (go_big_quiet_step ((first
            | (go_at_call 41; exact Calls.bw_of (by simp) (at_any _ _ _)))))
          refine wpQuiet_nil ?_
          intro x3
          go_wp2_with fail
          refine (Calls.bw_of (by simp) (lives_any _)).mono ?_
          rintro e w' ⟨rfl, xl, rfl⟩
          go_wp2
          go_ret
          exact gives_of_eq rfl ((bZ.alloc bZ.size _).trans (xl.h.mono (Nat.le_succ_of_le bZ.size)))
        · have bD : (D == 32767) = false := by simpa using fD
          refine wp_region_bw (Z.heap.size + 1) _ x2.h (by kernel_rfl) (by kernel_rfl) ?_
          repeat (go_big_quiet_step ((first
            | (go_at_call 41; exact Calls.bw_of (by simp) (at_any _ _ _))
            | (go_at_call 21; exact Calls.bw_of (by simp) (kD _)))))
          refine wpQuiet_nil ?_
          intro x3
          go_wp2_with fail
          refine (Calls.bw_of (by simp) (lives_any _)).mono ?_
          rintro e w' ⟨rfl, xl, rfl⟩
          go_wp2
          go_ret
          exact gives_of_eq rfl ((bZ.alloc bZ.size _).trans (xl.h.mono (Nat.le_succ_of_le bZ.size)))
      · have bB : (B == -32768) = false := by simpa using fB
        refine wp_region_bw (Z.heap.size + 1) _ x1.h (by kernel_rfl) (by kernel_rfl) ?_
        repeat (go_big_quiet_step ((first
          | (go_at_call 41; exact Calls.bw_of (by simp) (at_any _ _ _))
          | (go_at_call 21; exact Calls.bw_of (by simp) (kB _)))))
        refine wpQuiet_nil ?_
        intro x2
        go_wp2_with fail
        rcases eD with fD | ⟨fD, kD⟩
        · refine wp_region_bw (Z.heap.size + 1) _ x2.h (by kernel_rfl) (by kernel_rfl) ?_
          repeat (go_big_quiet_step ((first
            | (go_at_call 41; exact Calls.bw_of (by simp) (at_any _ _ _)))))
          refine wpQuiet_nil ?_
          intro x3
          go_wp2_with fail
          refine (Calls.bw_of (by simp) (lives_any _)).mono ?_
          rintro e w' ⟨rfl, xl, rfl⟩
          go_wp2
          go_ret
          exact gives_of_eq rfl ((bZ.alloc bZ.size _).trans (xl.h.mono (Nat.le_succ_of_le bZ.size)))
        · have bD : (D == 32767) = false := by simpa using fD
          refine wp_region_bw (Z.heap.size + 1) _ x2.h (by kernel_rfl) (by kernel_rfl) ?_
          repeat (go_big_quiet_step ((first
            | (go_at_call 41; exact Calls.bw_of (by simp) (at_any _ _ _))
            | (go_at_call 21; exact Calls.bw_of (by simp) (kD _)))))
          refine wpQuiet_nil ?_
          intro x3
          go_wp2_with fail
          refine (Calls.bw_of (by simp) (lives_any _)).mono ?_
          rintro e w' ⟨rfl, xl, rfl⟩
          go_wp2
          go_ret
          exact gives_of_eq rfl ((bZ.alloc bZ.size _).trans (xl.h.mono (Nat.le_succ_of_le bZ.size)))
    · have bC : (C == 32767) = false := by simpa using fC
      refine wp_region_bw (Z.heap.size + 1) _ x0.h (by kernel_rfl) (by kernel_rfl) ?_
      repeat (go_big_quiet_step ((first
        | (go_at_call 41; exact Calls.bw_of (by simp) (at_any _ _ _))
        | (go_at_call 21; exact Calls.bw_of (by simp) (kC _)))))
      refine wpQuiet_nil ?_
      intro x1
      go_wp2_with fail
      rcases eB with fB | ⟨fB, kB⟩
      · refine wp_region_bw (Z.heap.size + 1) _ x1.h (by kernel_rfl) (by kernel_rfl) ?_
        repeat (go_big_quiet_step ((first
          | (go_at_call 41; exact Calls.bw_of (by simp) (at_any _ _ _)))))
        refine wpQuiet_nil ?_
        intro x2
        go_wp2_with fail
        rcases eD with fD | ⟨fD, kD⟩
        · refine wp_region_bw (Z.heap.size + 1) _ x2.h (by kernel_rfl) (by kernel_rfl) ?_
          repeat (go_big_quiet_step ((first
            | (go_at_call 41; exact Calls.bw_of (by simp) (at_any _ _ _)))))
          refine wpQuiet_nil ?_
          intro x3
          go_wp2_with fail
          refine (Calls.bw_of (by simp) (lives_any _)).mono ?_
          rintro e w' ⟨rfl, xl, rfl⟩
          go_wp2
          go_ret
          exact gives_of_eq rfl ((bZ.alloc bZ.size _).trans (xl.h.mono (Nat.le_succ_of_le bZ.size)))
        · have bD : (D == 32767) = false := by simpa using fD
          refine wp_region_bw (Z.heap.size + 1) _ x2.h (by kernel_rfl) (by kernel_rfl) ?_
          repeat (go_big_quiet_step ((first
            | (go_at_call 41; exact Calls.bw_of (by simp) (at_any _ _ _))
            | (go_at_call 21; exact Calls.bw_of (by simp) (kD _)))))
          refine wpQuiet_nil ?_
          intro x3
          go_wp2_with fail
          refine (Calls.bw_of (by simp) (lives_any _)).mono ?_
          rintro e w' ⟨rfl, xl, rfl⟩
          go_wp2
          go_ret
          exact gives_of_eq rfl ((bZ.alloc bZ.size _).trans (xl.h.mono (Nat.le_succ_of_le bZ.size)))
      · have bB : (B == -32768) = false := by simpa using fB
        refine wp_region_bw (Z.heap.size + 1) _ x1.h (by kernel_rfl) (by kernel_rfl) ?_
        repeat (go_big_quiet_step ((first
          | (go_at_call 41; exact Calls.bw_of (by simp) (at_any _ _ _))
          | (go_at_call 21; exact Calls.bw_of (by simp) (kB _)))))
        refine wpQuiet_nil ?_
        intro x2
        go_wp2_with fail
        rcases eD with fD | ⟨fD, kD⟩
        · refine wp_region_bw (Z.heap.size + 1) _ x2.h (by kernel_rfl) (by kernel_rfl) ?_
          repeat (go_big_quiet_step ((first
            | (go_at_call 41; exact Calls.bw_of (by simp) (at_any _ _ _)))))
          refine wpQuiet_nil ?_
          intro x3
          go_wp2_with fail
          refine (Calls.bw_of (by simp) (lives_any _)).mono ?_
          rintro e w' ⟨rfl, xl, rfl⟩
          go_wp2
          go_ret
          exact gives_of_eq rfl ((bZ.alloc bZ.size _).trans (xl.h.mono (Nat.le_succ_of_le bZ.size)))
        · have bD : (D == 32767) = false := by simpa using fD
          refine wp_region_bw (Z.heap.size + 1) _ x2.h (by kernel_rfl) (by kernel_rfl) ?_
          repeat (go_big_quiet_step ((first
            | (go_at_call 41; exact Calls.bw_of (by simp) (at_any _ _ _))
            | (go_at_call 21; exact Calls.bw_of (by simp) (kD _)))))
          refine wpQuiet_nil ?_
          intro x3
          go_wp2_with fail
          refine (Calls.bw_of (by simp) (lives_any _)).mono ?_
          rintro e w' ⟨rfl, xl, rfl⟩
          go_wp2
          go_ret
          exact gives_of_eq rfl ((bZ.alloc bZ.size _).trans (xl.h.mono (Nat.le_succ_of_le bZ.size)))

set_option maxHeartbeats 8000000 in
theorem least_neg (x y r u v A B C D d R : Int) (w : World)
    (hb : ∀ w, Calls Try.prog 43 #[.agg #[.int .i16 x, .int .i16 y], .int .i64 r] w (Gives (.agg #[.int .i16 A, .int .i16 B, .int .i16 C, .int .i16 D]) w))
    (hp : ∀ w, Calls Try.prog 44 #[.agg #[.int .i16 x, .int .i16 y], .agg #[.int .i16 A, .int .i16 B, .int .i16 C, .int .i16 D]] w (Gives (.bool true) w))
    (hd : ∀ w, Calls Try.prog 21 #[.agg #[.int .i16 x, .int .i16 y], .agg #[.int .i16 u, .int .i16 v]] w (Gives (.int .i64 d) w))
    (hq : ∀ w, d ≤ r → Calls Try.prog 44 #[.agg #[.int .i16 u, .int .i16 v], .agg #[.int .i16 A, .int .i16 B, .int .i16 C, .int .i16 D]] w (Gives (.bool true) w)) (f1 : ¬ d ≤ r) (f2 : r < 0) (f3 : R = 0) (f4 : ¬ 0 ≤ r)
    (eA : A = -32768 ∨ (¬ A = -32768 ∧ ∀ w, Calls Try.prog 21 #[.agg #[.int .i16 x, .int .i16 y], .agg #[.int .i16 A, .int .i16 y]] w (Gives (.int .i64 R) w)))
    (eC : C = 32767 ∨ (¬ C = 32767 ∧ ∀ w, Calls Try.prog 21 #[.agg #[.int .i16 x, .int .i16 y], .agg #[.int .i16 C, .int .i16 y]] w (Gives (.int .i64 R) w)))
    (eB : B = -32768 ∨ (¬ B = -32768 ∧ ∀ w, Calls Try.prog 21 #[.agg #[.int .i16 x, .int .i16 y], .agg #[.int .i16 x, .int .i16 B]] w (Gives (.int .i64 R) w)))
    (eD : D = 32767 ∨ (¬ D = 32767 ∧ ∀ w, Calls Try.prog 21 #[.agg #[.int .i16 x, .int .i16 y], .agg #[.int .i16 x, .int .i16 D]] w (Gives (.int .i64 R) w))) :
    Calls Try.prog 18 #[.agg #[.int .i16 x, .int .i16 y], .int .i64 r, .agg #[.int .i16 u, .int .i16 v]] w (Gives (.bool true) w) := by
  have HB := Lib.hid hb
  have HP := Lib.hid hp
  have HD := Lib.hid hd
  have HQ := Lib.hid hq
  clear hb hp hd hq
  go_enter Try.func18, Try.ntmps18
  go_wp2_with fail
  refine (HB.out _).mono ?_
  rintro e w' ⟨rfl, z, rfl⟩
  have q0 : z.i.cell? ⟨w.heap.size, 0, none⟩ = some (.int .i16 x) := by rw [z.cell (by simp; omega)]; simp [go_sem]
  have q1 : z.i.cell? ⟨w.heap.size, 1, none⟩ = some (.int .i16 y) := by rw [z.cell (by simp; omega)]; simp [go_sem]
  have q2 : z.i.cell? ⟨w.heap.size + 1, 0, none⟩ = some (.int .i16 u) := by rw [z.cell (by simp)]; simp [go_sem]
  have q3 : z.i.cell? ⟨w.heap.size + 1, 1, none⟩ = some (.int .i16 v) := by rw [z.cell (by simp)]; simp [go_sem]
  have l1 : w.heap.size + 1 < z.i.heap.size := by have := z.size; simp at this; omega
  have l0 : w.heap.size < z.i.heap.size := by omega
  have l2 : w.heap.size < z.i.heap.size + 1 := by omega
  have l3 : w.heap.size + 1 < z.i.heap.size + 1 := by omega
  have bZ : Below w.heap.size w z.i := (((Below.refl _ w).alloc (Nat.le_refl _) _).alloc (by simp) _).trans (z.h.mono (by simp; omega))
  generalize z.i = Z at *
  clear z
  go_wp2_with fail
  refine (Calls.bw_at (B := Z.heap.size + 1) (Below.refl _ _) (by simp) (HP.out _)).mono ?_
  rintro e w' ⟨rfl, y1, rfl⟩
  go_wp2_with fail
  refine (Calls.bw_of (by simp) (HD.out _)).mono ?_
  rintro e w' ⟨rfl, y2, rfl⟩
  go_wp2_with fail

  rcases eA with fA | ⟨fA, kA⟩
  · refine wp_region_bw (Z.heap.size + 1) _ y2.h (by kernel_rfl) (by kernel_rfl) ?_
    repeat (go_big_quiet_step ((first
      | (go_at_call 41; exact Calls.bw_of (by simp) (at_any _ _ _)))))
    refine wpQuiet_nil ?_
    intro x0
    go_wp2_with fail
    rcases eC with fC | ⟨fC, kC⟩
    · refine wp_region_bw (Z.heap.size + 1) _ x0.h (by kernel_rfl) (by kernel_rfl) ?_
      repeat (go_big_quiet_step ((first
        | (go_at_call 41; exact Calls.bw_of (by simp) (at_any _ _ _)))))
      refine wpQuiet_nil ?_
      intro x1
      go_wp2_with fail
      rcases eB with fB | ⟨fB, kB⟩
      · refine wp_region_bw (Z.heap.size + 1) _ x1.h (by kernel_rfl) (by kernel_rfl) ?_
        repeat (go_big_quiet_step ((first
          | (go_at_call 41; exact Calls.bw_of (by simp) (at_any _ _ _)))))
        refine wpQuiet_nil ?_
        intro x2
        go_wp2_with fail
        rcases eD with fD | ⟨fD, kD⟩
        · refine wp_region_bw (Z.heap.size + 1) _ x2.h (by kernel_rfl) (by kernel_rfl) ?_
          repeat (go_big_quiet_step ((first
            | (go_at_call 41; exact Calls.bw_of (by simp) (at_any _ _ _)))))
          refine wpQuiet_nil ?_
          intro x3
          go_wp2_with fail
          refine (Calls.bw_of (by simp) (lives_any _)).mono ?_
          rintro e w' ⟨rfl, xl, rfl⟩
          go_wp2
          go_ret
          exact gives_of_eq rfl ((bZ.alloc bZ.size _).trans (xl.h.mono (Nat.le_succ_of_le bZ.size)))
        · have bD : (D == 32767) = false := by simpa using fD
          refine wp_region_bw (Z.heap.size + 1) _ x2.h (by kernel_rfl) (by kernel_rfl) ?_
          repeat (go_big_quiet_step ((first
            | (go_at_call 41; exact Calls.bw_of (by simp) (at_any _ _ _))
            | (go_at_call 21; exact Calls.bw_of (by simp) (kD _)))))
          refine wpQuiet_nil ?_
          intro x3
          go_wp2_with fail
          refine (Calls.bw_of (by simp) (lives_any _)).mono ?_
          rintro e w' ⟨rfl, xl, rfl⟩
          go_wp2
          go_ret
          exact gives_of_eq rfl ((bZ.alloc bZ.size _).trans (xl.h.mono (Nat.le_succ_of_le bZ.size)))
      · have bB : (B == -32768) = false := by simpa using fB
        refine wp_region_bw (Z.heap.size + 1) _ x1.h (by kernel_rfl) (by kernel_rfl) ?_
        repeat (go_big_quiet_step ((first
          | (go_at_call 41; exact Calls.bw_of (by simp) (at_any _ _ _))
          | (go_at_call 21; exact Calls.bw_of (by simp) (kB _)))))
        refine wpQuiet_nil ?_
        intro x2
        go_wp2_with fail
        rcases eD with fD | ⟨fD, kD⟩
        · refine wp_region_bw (Z.heap.size + 1) _ x2.h (by kernel_rfl) (by kernel_rfl) ?_
          repeat (go_big_quiet_step ((first
            | (go_at_call 41; exact Calls.bw_of (by simp) (at_any _ _ _)))))
          refine wpQuiet_nil ?_
          intro x3
          go_wp2_with fail
          refine (Calls.bw_of (by simp) (lives_any _)).mono ?_
          rintro e w' ⟨rfl, xl, rfl⟩
          go_wp2
          go_ret
          exact gives_of_eq rfl ((bZ.alloc bZ.size _).trans (xl.h.mono (Nat.le_succ_of_le bZ.size)))
        · have bD : (D == 32767) = false := by simpa using fD
          refine wp_region_bw (Z.heap.size + 1) _ x2.h (by kernel_rfl) (by kernel_rfl) ?_
          repeat (go_big_quiet_step ((first
            | (go_at_call 41; exact Calls.bw_of (by simp) (at_any _ _ _))
            | (go_at_call 21; exact Calls.bw_of (by simp) (kD _)))))
          refine wpQuiet_nil ?_
          intro x3
          go_wp2_with fail
          refine (Calls.bw_of (by simp) (lives_any _)).mono ?_
          rintro e w' ⟨rfl, xl, rfl⟩
          go_wp2
          go_ret
          exact gives_of_eq rfl ((bZ.alloc bZ.size _).trans (xl.h.mono (Nat.le_succ_of_le bZ.size)))
    · have bC : (C == 32767) = false := by simpa using fC
      refine wp_region_bw (Z.heap.size + 1) _ x0.h (by kernel_rfl) (by kernel_rfl) ?_
      repeat (go_big_quiet_step ((first
        | (go_at_call 41; exact Calls.bw_of (by simp) (at_any _ _ _))
        | (go_at_call 21; exact Calls.bw_of (by simp) (kC _)))))
      refine wpQuiet_nil ?_
      intro x1
      go_wp2_with fail
      rcases eB with fB | ⟨fB, kB⟩
      · refine wp_region_bw (Z.heap.size + 1) _ x1.h (by kernel_rfl) (by kernel_rfl) ?_
        repeat (go_big_quiet_step ((first
          | (go_at_call 41; exact Calls.bw_of (by simp) (at_any _ _ _)))))
        refine wpQuiet_nil ?_
        intro x2
        go_wp2_with fail
        rcases eD with fD | ⟨fD, kD⟩
        · refine wp_region_bw (Z.heap.size + 1) _ x2.h (by kernel_rfl) (by kernel_rfl) ?_
          repeat (go_big_quiet_step ((first
            | (go_at_call 41; exact Calls.bw_of (by simp) (at_any _ _ _)))))
          refine wpQuiet_nil ?_
          intro x3
          go_wp2_with fail
          refine (Calls.bw_of (by simp) (lives_any _)).mono ?_
          rintro e w' ⟨rfl, xl, rfl⟩
          go_wp2
          go_ret
          exact gives_of_eq rfl ((bZ.alloc bZ.size _).trans (xl.h.mono (Nat.le_succ_of_le bZ.size)))
        · have bD : (D == 32767) = false := by simpa using fD
          refine wp_region_bw (Z.heap.size + 1) _ x2.h (by kernel_rfl) (by kernel_rfl) ?_
          repeat (go_big_quiet_step ((first
            | (go_at_call 41; exact Calls.bw_of (by simp) (at_any _ _ _))
            | (go_at_call 21; exact Calls.bw_of (by simp) (kD _)))))
          refine wpQuiet_nil ?_
          intro x3
          go_wp2_with fail
          refine (Calls.bw_of (by simp) (lives_any _)).mono ?_
          rintro e w' ⟨rfl, xl, rfl⟩
          go_wp2
          go_ret
          exact gives_of_eq rfl ((bZ.alloc bZ.size _).trans (xl.h.mono (Nat.le_succ_of_le bZ.size)))
      · have bB : (B == -32768) = false := by simpa using fB
        refine wp_region_bw (Z.heap.size + 1) _ x1.h (by kernel_rfl) (by kernel_rfl) ?_
        repeat (go_big_quiet_step ((first
          | (go_at_call 41; exact Calls.bw_of (by simp) (at_any _ _ _))
          | (go_at_call 21; exact Calls.bw_of (by simp) (kB _)))))
        refine wpQuiet_nil ?_
        intro x2
        go_wp2_with fail
        rcases eD with fD | ⟨fD, kD⟩
        · refine wp_region_bw (Z.heap.size + 1) _ x2.h (by kernel_rfl) (by kernel_rfl) ?_
          repeat (go_big_quiet_step ((first
            | (go_at_call 41; exact Calls.bw_of (by simp) (at_any _ _ _)))))
          refine wpQuiet_nil ?_
          intro x3
          go_wp2_with fail
          refine (Calls.bw_of (by simp) (lives_any _)).mono ?_
          rintro e w' ⟨rfl, xl, rfl⟩
          go_wp2
          go_ret
          exact gives_of_eq rfl ((bZ.alloc bZ.size _).trans (xl.h.mono (Nat.le_succ_of_le bZ.size)))
        · have bD : (D == 32767) = false := by simpa using fD
          refine wp_region_bw (Z.heap.size + 1) _ x2.h (by kernel_rfl) (by kernel_rfl) ?_
          repeat (go_big_quiet_step ((first
            | (go_at_call 41; exact Calls.bw_of (by simp) (at_any _ _ _))
            | (go_at_call 21; exact Calls.bw_of (by simp) (kD _)))))
          refine wpQuiet_nil ?_
          intro x3
          go_wp2_with fail
          refine (Calls.bw_of (by simp) (lives_any _)).mono ?_
          rintro e w' ⟨rfl, xl, rfl⟩
          go_wp2
          go_ret
          exact gives_of_eq rfl ((bZ.alloc bZ.size _).trans (xl.h.mono (Nat.le_succ_of_le bZ.size)))
  · have bA : (A == -32768) = false := by simpa using fA
    refine wp_region_bw (Z.heap.size + 1) _ y2.h (by kernel_rfl) (by kernel_rfl) ?_
    repeat (go_big_quiet_step ((first
      | (go_at_call 41; exact Calls.bw_of (by simp) (at_any _ _ _))
      | (go_at_call 21; exact Calls.bw_of (by simp) (kA _)))))
    refine wpQuiet_nil ?_
    intro x0
    go_wp2_with fail
    rcases eC with fC | ⟨fC, kC⟩
    · refine wp_region_bw (Z.heap.size + 1) _ x0.h (by kernel_rfl) (by kernel_rfl) ?_
      repeat (go_big_quiet_step ((first
        | (go_at_call 41; exact Calls.bw_of (by simp) (at_any _ _ _)))))
      refine wpQuiet_nil ?_
      intro x1
      go_wp2_with fail
      rcases eB with fB | ⟨fB, kB⟩
      · refine wp_region_bw (Z.heap.size + 1) _ x1.h (by kernel_rfl) (by kernel_rfl) ?_
        repeat (go_big_quiet_step ((first
          | (go_at_call 41; exact Calls.bw_of (by simp) (at_any _ _ _)))))
        refine wpQuiet_nil ?_
        intro x2
        go_wp2_with fail
        rcases eD with fD | ⟨fD, kD⟩
        · refine wp_region_bw (Z.heap.size + 1) _ x2.h (by kernel_rfl) (by kernel_rfl) ?_
          repeat (go_big_quiet_step ((first
            | (go_at_call 41; exact Calls.bw_of (by simp) (at_any _ _ _)))))
          refine wpQuiet_nil ?_
          intro x3
          go_wp2_with fail
          refine (Calls.bw_of (by simp) (lives_any _)).mono ?_
          rintro e w' ⟨rfl, xl, rfl⟩
          go_wp2
          go_ret
          exact gives_of_eq rfl ((bZ.alloc bZ.size _).trans (xl.h.mono (Nat.le_succ_of_le bZ.size)))
        · have bD : (D == 32767) = false := by simpa using fD
          refine wp_region_bw (Z.heap.size + 1) _ x2.h (by kernel_rfl) (by kernel_rfl) ?_
          repeat (go_big_quiet_step ((first
            | (go_at_call 41; exact Calls.bw_of (by simp) (at_any _ _ _))
            | (go_at_call 21; exact Calls.bw_of (by simp) (kD _)))))
          refine wpQuiet_nil ?_
          intro x3
          go_wp2_with fail
          refine (Calls.bw_of (by simp) (lives_any _)).mono ?_
          rintro e w' ⟨rfl, xl, rfl⟩
          go_wp2
          go_ret
          exact gives_of_eq rfl ((bZ.alloc bZ.size _).trans (xl.h.mono (Nat.le_succ_of_le bZ.size)))
      · have bB : (B == -32768) = false := by simpa using fB
        refine wp_region_bw (Z.heap.size + 1) _ x1.h (by kernel_rfl) (by kernel_rfl) ?_
        repeat (go_big_quiet_step ((first
          | (go_at_call 41; exact Calls.bw_of (by simp) (at_any _ _ _))
          | (go_at_call 21; exact Calls.bw_of (by simp) (kB _)))))
        refine wpQuiet_nil ?_
        intro x2
        go_wp2_with fail
        rcases eD with fD | ⟨fD, kD⟩
        · refine wp_region_bw (Z.heap.size + 1) _ x2.h (by kernel_rfl) (by kernel_rfl) ?_
          repeat (go_big_quiet_step ((first
            | (go_at_call 41; exact Calls.bw_of (by simp) (at_any _ _ _)))))
          refine wpQuiet_nil ?_
          intro x3
          go_wp2_with fail
          refine (Calls.bw_of (by simp) (lives_any _)).mono ?_
          rintro e w' ⟨rfl, xl, rfl⟩
          go_wp2
          go_ret
          exact gives_of_eq rfl ((bZ.alloc bZ.size _).trans (xl.h.mono (Nat.le_succ_of_le bZ.size)))
        · have bD : (D == 32767) = false := by simpa using fD
          refine wp_region_bw (Z.heap.size + 1) _ x2.h (by kernel_rfl) (by kernel_rfl) ?_
          repeat (go_big_quiet_step ((first
            | (go_at_call 41; exact Calls.bw_of (by simp) (at_any _ _ _))
            | (go_at_call 21; exact Calls.bw_of (by simp) (kD _)))))
          refine wpQuiet_nil ?_
          intro x3
          go_wp2_with fail
          refine (Calls.bw_of (by simp) (lives_any _)).mono ?_
          rintro e w' ⟨rfl, xl, rfl⟩
          go_wp2
          go_ret
          exact gives_of_eq rfl ((bZ.alloc bZ.size _).trans (xl.h.mono (Nat.le_succ_of_le bZ.size)))
    · have bC : (C == 32767) = false := by simpa using fC
      refine wp_region_bw (Z.heap.size + 1) _ x0.h (by kernel_rfl) (by kernel_rfl) ?_
      repeat (go_big_quiet_step ((first
        | (go_at_call 41; exact Calls.bw_of (by simp) (at_any _ _ _))
        | (go_at_call 21; exact Calls.bw_of (by simp) (kC _)))))
      refine wpQuiet_nil ?_
      intro x1
      go_wp2_with fail
      rcases eB with fB | ⟨fB, kB⟩
      · refine wp_region_bw (Z.heap.size + 1) _ x1.h (by kernel_rfl) (by kernel_rfl) ?_
        repeat (go_big_quiet_step ((first
          | (go_at_call 41; exact Calls.bw_of (by simp) (at_any _ _ _)))))
        refine wpQuiet_nil ?_
        intro x2
        go_wp2_with fail
        rcases eD with fD | ⟨fD, kD⟩
        · refine wp_region_bw (Z.heap.size + 1) _ x2.h (by kernel_rfl) (by kernel_rfl) ?_
          repeat (go_big_quiet_step ((first
            | (go_at_call 41; exact Calls.bw_of (by simp) (at_any _ _ _)))))
          refine wpQuiet_nil ?_
          intro x3
          go_wp2_with fail
          refine (Calls.bw_of (by simp) (lives_any _)).mono ?_
          rintro e w' ⟨rfl, xl, rfl⟩
          go_wp2
          go_ret
          exact gives_of_eq rfl ((bZ.alloc bZ.size _).trans (xl.h.mono (Nat.le_succ_of_le bZ.size)))
        · have bD : (D == 32767) = false := by simpa using fD
          refine wp_region_bw (Z.heap.size + 1) _ x2.h (by kernel_rfl) (by kernel_rfl) ?_
          repeat (go_big_quiet_step ((first
            | (go_at_call 41; exact Calls.bw_of (by simp) (at_any _ _ _))
            | (go_at_call 21; exact Calls.bw_of (by simp) (kD _)))))
          refine wpQuiet_nil ?_
          intro x3
          go_wp2_with fail
          refine (Calls.bw_of (by simp) (lives_any _)).mono ?_
          rintro e w' ⟨rfl, xl, rfl⟩
          go_wp2
          go_ret
          exact gives_of_eq rfl ((bZ.alloc bZ.size _).trans (xl.h.mono (Nat.le_succ_of_le bZ.size)))
      · have bB : (B == -32768) = false := by simpa using fB
        refine wp_region_bw (Z.heap.size + 1) _ x1.h (by kernel_rfl) (by kernel_rfl) ?_
        repeat (go_big_quiet_step ((first
          | (go_at_call 41; exact Calls.bw_of (by simp) (at_any _ _ _))
          | (go_at_call 21; exact Calls.bw_of (by simp) (kB _)))))
        refine wpQuiet_nil ?_
        intro x2
        go_wp2_with fail
        rcases eD with fD | ⟨fD, kD⟩
        · refine wp_region_bw (Z.heap.size + 1) _ x2.h (by kernel_rfl) (by kernel_rfl) ?_
          repeat (go_big_quiet_step ((first
            | (go_at_call 41; exact Calls.bw_of (by simp) (at_any _ _ _)))))
          refine wpQuiet_nil ?_
          intro x3
          go_wp2_with fail
          refine (Calls.bw_of (by simp) (lives_any _)).mono ?_
          rintro e w' ⟨rfl, xl, rfl⟩
          go_wp2
          go_ret
          exact gives_of_eq rfl ((bZ.alloc bZ.size _).trans (xl.h.mono (Nat.le_succ_of_le bZ.size)))
        · have bD : (D == 32767) = false := by simpa using fD
          refine wp_region_bw (Z.heap.size + 1) _ x2.h (by kernel_rfl) (by kernel_rfl) ?_
          repeat (go_big_quiet_step ((first
            | (go_at_call 41; exact Calls.bw_of (by simp) (at_any _ _ _))
            | (go_at_call 21; exact Calls.bw_of (by simp) (kD _)))))
          refine wpQuiet_nil ?_
          intro x3
          go_wp2_with fail
          refine (Calls.bw_of (by simp) (lives_any _)).mono ?_
          rintro e w' ⟨rfl, xl, rfl⟩
          go_wp2
          go_ret
          exact gives_of_eq rfl ((bZ.alloc bZ.size _).trans (xl.h.mono (Nat.le_succ_of_le bZ.size)))
end Go.Proofs.Ytilimgjmiijkiaa
