/- PlaneNames: the chapter's examples at the edges of the plane. No conditions. -/
import Derived.Test.YtilimgjmiijkiaaL
import Derived.Test.YtilimgjmiijkiaaA7
import Derived.Test.YtilimgjmiijkiaaA8
import Derived.Test.YtilimgjmiijkiaaA12
import Derived.Test.YtilimgjmiijkiaaA14
import Derived.Test.YtilimgjmiijkiaaA15
import Derived.Test.YtilimgjmiijkiaaRows
namespace Go.Proofs.Ytilimgjmiijkiaa
open Go.ChangeShapes Go.WideShapes Go.ChangeAt Go.RowKit Go.Joins Ieee
attribute [local go_sem] BW.cell BW.frozen
set_option linter.unusedVariables false

theorem n_turn1 (w : World) : Calls Try.prog 35 #[.agg #[.int .i16 32767, .int .i16 0], .agg #[.int .i16 0, .int .i16 (-1)], .int .i64 2] w (Gives (.tuple #[.agg #[.int .i16 (-32767), .int .i16 (-2)], .bool true]) w) := by
  have h := turn_any 32767 0 0 (-1) 2 w (by decide) (by decide) (by decide) (by decide) (by decide) (by decide) (by decide) (by decide)
  have e : pin (rotX (qrt 2) (32767 - 0) (0 - -1) + 0) (rotY (qrt 2) (32767 - 0) (0 - -1) + -1) = .tuple #[.agg #[.int .i16 (-32767), .int .i16 (-2)], .bool true] := by rfl
  rw [e] at h; exact h

theorem n_turn2 : ∃ X Y, ∀ w, Calls Try.prog 35 #[.agg #[.int .i16 0, .int .i16 32767], .agg #[.int .i16 (-2), .int .i16 (-1)], .int .i64 1] w (Gives (.tuple #[.agg #[.int .i16 X, .int .i16 Y], .bool false]) w) := by
  have e : pin (rotX (qrt 1) (0 - -2) (32767 - -1) + -2) (rotY (qrt 1) (0 - -2) (32767 - -1) + -1) = .tuple #[.agg #[.int .i16 0, .int .i16 0], .bool false] := by rfl
  refine ⟨0, 0, fun w => ?_⟩
  have h := turn_any 0 32767 (-2) (-1) 1 w (by decide) (by decide) (by decide) (by decide) (by decide) (by decide) (by decide) (by decide)
  rw [e] at h; exact h

theorem n_from (a b : Nat) (h : (wh a && wh b) = false) : ∃ X Y, ∀ w, Calls Try.prog 33 #[.complex .f64 a b] w (Gives (.tuple #[.agg #[.int .i16 X, .int .i16 Y], .bool false]) w) :=
  ⟨frX a b, frY a b, fun w => by have := from_any a b w; rw [h] at this; exact this⟩

theorem n_from3 (w : World) : Calls Try.prog 33 #[.complex .f64 9223372036854775808 13898108450065350656] w (Gives (.tuple #[.agg #[.int .i16 0, .int .i16 (-32768)], .bool true]) w) := by
  have h := from_FI true false 0 (-32768) w (by decide) (by decide)
  have e1 : (9223372036854775808 : Nat) = FI true 0 := by decide +kernel
  rw [← e1, ← lo_FI] at h
  exact h

theorem n_dist (w : World) : Calls Try.prog 21 #[.agg #[.int .i16 (-32768), .int .i16 (-32768)], .agg #[.int .i16 32767, .int .i16 32767]] w (Gives (.int .i64 131070) w) :=
  dist_any (-32768) (-32768) 32767 32767 w (by decide) (by decide) (by decide) (by decide) (by decide) (by decide) (by decide) (by decide)

theorem n_around (w : World) : Calls Try.prog 43 #[.agg #[.int .i16 32767, .int .i16 0], .int .i64 9223372036854775807] w (Gives (.agg #[.int .i16 (-32768), .int .i16 (-32768), .int .i16 32767, .int .i16 32767]) w) :=
  around_any 32767 0 9223372036854775807 w (by decide) (by decide) (by decide) (by decide)

theorem n_sector (w : World) (a b : Nat) (h : (a = 0 ∧ b = 0) ∨ (a = 9218868437227405312 ∧ b = 4607182418800017408) ∨ (a = 9221120237041090561 ∧ b = 4607182418800017408)) :
    Calls Try.prog 39 #[.complex .f64 a b] w (Keeps (.int .i64 (-1)) w) := by
  have e1 : ∀ r : Nat, double.word false r = r := word_false
  rcases h with ⟨rfl, rfl⟩ | ⟨rfl, rfl⟩ | ⟨rfl, rfl⟩
  · have h := sector_any false false 0 0 w (by decide) (by decide)
    rw [e1, show sec false false 0 0 = -1 by decide] at h; exact h
  · have h := sector_any false false 9218868437227405312 4607182418800017408 w (by decide) (by decide)
    rw [e1, e1, show sec false false 9218868437227405312 4607182418800017408 = -1 by unfold sec; rw [if_pos (.inl (by unfold INF; decide))]] at h; exact h
  · have h := sector_any false false 9221120237041090561 4607182418800017408 w (by decide) (by decide)
    rw [e1, e1, show sec false false 9221120237041090561 4607182418800017408 = -1 by unfold sec; rw [if_pos (.inl (by unfold INF; decide))]] at h; exact h

theorem n_half : wh 4609434218613702656 = false := by
  have e : (4609434218613702656 : Nat) = fw false 3 (-((1 : Nat) : Int)) := by decide +kernel
  rw [e]; exact odd_part false 3 1 (.inl rfl) (by decide) (by decide)
theorem n_out : wh 4674736413210574848 = false := by
  have e : (4674736413210574848 : Nat) = FI false 32768 := by decide +kernel
  rw [e, (wh_FI false 32768 (by decide)).2.2]; decide

set_option maxHeartbeats 4000000 in
theorem names_core (X1 Y1 X2 Y2 X3 Y3 : Int) (w : World)
    (k1 : ∀ w, Calls Try.prog 35 #[.agg #[.int .i16 0, .int .i16 32767], .agg #[.int .i16 (-2), .int .i16 (-1)], .int .i64 1] w (Gives (.tuple #[.agg #[.int .i16 X1, .int .i16 Y1], .bool false]) w))
    (k2 : ∀ w, Calls Try.prog 33 #[.complex .f64 4609434218613702656 0] w (Gives (.tuple #[.agg #[.int .i16 X2, .int .i16 Y2], .bool false]) w))
    (k3 : ∀ w, Calls Try.prog 33 #[.complex .f64 4674736413210574848 0] w (Gives (.tuple #[.agg #[.int .i16 X3, .int .i16 Y3], .bool false]) w)) :
    Calls Try.prog 20 #[] w (Gives (.bool true) w) := by
  have K1 := Lib.hid k1
  have K2 := Lib.hid k2
  have K3 := Lib.hid k3
  have K4 := Lib.hid n_sector
  clear k1 k2 k3
  go_enter Try.func20, Try.ntmps20
  go_wp2_with fail
  refine (at_any _ _ _).mono ?_
  rintro e w' ⟨rfl, z1, rfl⟩
  have sz1 := z1.size
  have bW1 : Below w.heap.size w z1.i := z1.h
  clear sz1
  generalize z1.i = Z1 at *
  clear z1
  go_wp2_with fail
  refine (at_any _ _ _).mono ?_
  rintro e w' ⟨rfl, z2, rfl⟩
  have sz2 := z2.size
  have bW2 : Below w.heap.size w z2.i := bW1.trans (z2.h.mono bW1.size)
  clear sz2 bW1
  generalize z2.i = Z2 at *
  clear z2
  go_wp2_with fail
  refine (n_turn1 _).mono ?_
  rintro e w' ⟨rfl, z3, rfl⟩
  have sz3 := z3.size
  have bW3 : Below w.heap.size w z3.i := bW2.trans (z3.h.mono bW2.size)
  clear sz3 bW2
  generalize z3.i = Z3 at *
  clear z3
  go_wp2_with fail
  refine (at_any _ _ _).mono ?_
  rintro e w' ⟨rfl, z4, rfl⟩
  have q4_0_0 : z4.i.cell? ⟨Z3.heap.size, 0, none⟩ = some (.int .i16 (-32767)) := by rw [z4.cell (by simp)]; simp [go_sem]
  have q4_0_1 : z4.i.cell? ⟨Z3.heap.size, 1, none⟩ = some (.int .i16 (-2)) := by rw [z4.cell (by simp)]; simp [go_sem]
  have sz4 := z4.size
  simp at sz4
  have l4_0 : Z3.heap.size < z4.i.heap.size := by omega
  have bW4 : Below w.heap.size w z4.i := (bW3.alloc bW3.size _).trans (z4.h.mono (Nat.le_trans bW3.size (by simp)))
  clear sz4 bW3
  generalize Z3.heap.size = b4 at *
  generalize z4.i = Z4 at *
  clear z4
  go_wp2_with fail
  refine (at_any _ _ _).mono ?_
  rintro e w' ⟨rfl, z5, rfl⟩
  have q5_0_0 : z5.i.cell? ⟨b4, 0, none⟩ = some (.int .i16 (-32767)) := by rw [z5.cell l4_0]; exact q4_0_0
  have q5_0_1 : z5.i.cell? ⟨b4, 1, none⟩ = some (.int .i16 (-2)) := by rw [z5.cell l4_0]; exact q4_0_1
  have sz5 := z5.size
  have l5_0 : b4 < z5.i.heap.size := by omega
  have bW5 : Below w.heap.size w z5.i := bW4.trans (z5.h.mono bW4.size)
  clear sz5 q4_0_0 q4_0_1 l4_0 bW4
  generalize z5.i = Z5 at *
  clear z5
  go_wp2_with fail
  refine (K1.out _).mono ?_
  rintro e w' ⟨rfl, z6, rfl⟩
  have q6_0_0 : z6.i.cell? ⟨b4, 0, none⟩ = some (.int .i16 (-32767)) := by rw [z6.cell l5_0]; exact q5_0_0
  have q6_0_1 : z6.i.cell? ⟨b4, 1, none⟩ = some (.int .i16 (-2)) := by rw [z6.cell l5_0]; exact q5_0_1
  have sz6 := z6.size
  have l6_0 : b4 < z6.i.heap.size := by omega
  have bW6 : Below w.heap.size w z6.i := bW5.trans (z6.h.mono bW5.size)
  clear sz6 q5_0_0 q5_0_1 l5_0 bW5
  generalize z6.i = Z6 at *
  clear z6
  go_wp2_with fail
  refine (K2.out _).mono ?_
  rintro e w' ⟨rfl, z7, rfl⟩
  have q7_0_0 : z7.i.cell? ⟨b4, 0, none⟩ = some (.int .i16 (-32767)) := by rw [z7.cell (by simp; omega), World.cell?_alloc_lt _ _ _ (by simpa using l6_0)]; exact q6_0_0
  have q7_0_1 : z7.i.cell? ⟨b4, 1, none⟩ = some (.int .i16 (-2)) := by rw [z7.cell (by simp; omega), World.cell?_alloc_lt _ _ _ (by simpa using l6_0)]; exact q6_0_1
  have q7_1_0 : z7.i.cell? ⟨Z6.heap.size, 0, none⟩ = some (.int .i16 X1) := by rw [z7.cell (by simp)]; simp [go_sem]
  have q7_1_1 : z7.i.cell? ⟨Z6.heap.size, 1, none⟩ = some (.int .i16 Y1) := by rw [z7.cell (by simp)]; simp [go_sem]
  have sz7 := z7.size
  simp at sz7
  have l7_0 : b4 < z7.i.heap.size := by omega
  have l7_1 : Z6.heap.size < z7.i.heap.size := by omega
  have bW7 : Below w.heap.size w z7.i := (bW6.alloc bW6.size _).trans (z7.h.mono (Nat.le_trans bW6.size (by simp)))
  clear sz7 q6_0_0 q6_0_1 l6_0 bW6
  generalize Z6.heap.size = b7 at *
  generalize z7.i = Z7 at *
  clear z7
  go_wp2_with fail
  refine (K3.out _).mono ?_
  rintro e w' ⟨rfl, z8, rfl⟩
  have q8_0_0 : z8.i.cell? ⟨b4, 0, none⟩ = some (.int .i16 (-32767)) := by rw [z8.cell (by simp; omega), World.cell?_alloc_lt _ _ _ (by simpa using l7_0)]; exact q7_0_0
  have q8_0_1 : z8.i.cell? ⟨b4, 1, none⟩ = some (.int .i16 (-2)) := by rw [z8.cell (by simp; omega), World.cell?_alloc_lt _ _ _ (by simpa using l7_0)]; exact q7_0_1
  have q8_1_0 : z8.i.cell? ⟨b7, 0, none⟩ = some (.int .i16 X1) := by rw [z8.cell (by simp; omega), World.cell?_alloc_lt _ _ _ (by simpa using l7_1)]; exact q7_1_0
  have q8_1_1 : z8.i.cell? ⟨b7, 1, none⟩ = some (.int .i16 Y1) := by rw [z8.cell (by simp; omega), World.cell?_alloc_lt _ _ _ (by simpa using l7_1)]; exact q7_1_1
  have q8_2_0 : z8.i.cell? ⟨Z7.heap.size, 0, none⟩ = some (.int .i16 X2) := by rw [z8.cell (by simp)]; simp [go_sem]
  have q8_2_1 : z8.i.cell? ⟨Z7.heap.size, 1, none⟩ = some (.int .i16 Y2) := by rw [z8.cell (by simp)]; simp [go_sem]
  have sz8 := z8.size
  simp at sz8
  have l8_0 : b4 < z8.i.heap.size := by omega
  have l8_1 : b7 < z8.i.heap.size := by omega
  have l8_2 : Z7.heap.size < z8.i.heap.size := by omega
  have bW8 : Below w.heap.size w z8.i := (bW7.alloc bW7.size _).trans (z8.h.mono (Nat.le_trans bW7.size (by simp)))
  clear sz8 q7_0_0 q7_0_1 q7_1_0 q7_1_1 l7_0 l7_1 bW7
  generalize Z7.heap.size = b8 at *
  generalize z8.i = Z8 at *
  clear z8
  go_wp2_with fail
  refine (copysign_no _).mono ?_
  rintro e w' ⟨rfl, rfl⟩
  go_wp2_with fail
  refine (n_from3 _).mono ?_
  rintro e w' ⟨rfl, z9, rfl⟩
  have q9_0_0 : z9.i.cell? ⟨b4, 0, none⟩ = some (.int .i16 (-32767)) := by rw [z9.cell (by simp; omega), World.cell?_alloc_lt _ _ _ (by simpa using l8_0)]; exact q8_0_0
  have q9_0_1 : z9.i.cell? ⟨b4, 1, none⟩ = some (.int .i16 (-2)) := by rw [z9.cell (by simp; omega), World.cell?_alloc_lt _ _ _ (by simpa using l8_0)]; exact q8_0_1
  have q9_1_0 : z9.i.cell? ⟨b7, 0, none⟩ = some (.int .i16 X1) := by rw [z9.cell (by simp; omega), World.cell?_alloc_lt _ _ _ (by simpa using l8_1)]; exact q8_1_0
  have q9_1_1 : z9.i.cell? ⟨b7, 1, none⟩ = some (.int .i16 Y1) := by rw [z9.cell (by simp; omega), World.cell?_alloc_lt _ _ _ (by simpa using l8_1)]; exact q8_1_1
  have q9_2_0 : z9.i.cell? ⟨b8, 0, none⟩ = some (.int .i16 X2) := by rw [z9.cell (by simp; omega), World.cell?_alloc_lt _ _ _ (by simpa using l8_2)]; exact q8_2_0
  have q9_2_1 : z9.i.cell? ⟨b8, 1, none⟩ = some (.int .i16 Y2) := by rw [z9.cell (by simp; omega), World.cell?_alloc_lt _ _ _ (by simpa using l8_2)]; exact q8_2_1
  have q9_3_0 : z9.i.cell? ⟨Z8.heap.size, 0, none⟩ = some (.int .i16 X3) := by rw [z9.cell (by simp)]; simp [go_sem]
  have q9_3_1 : z9.i.cell? ⟨Z8.heap.size, 1, none⟩ = some (.int .i16 Y3) := by rw [z9.cell (by simp)]; simp [go_sem]
  have sz9 := z9.size
  simp at sz9
  have l9_0 : b4 < z9.i.heap.size := by omega
  have l9_1 : b7 < z9.i.heap.size := by omega
  have l9_2 : b8 < z9.i.heap.size := by omega
  have l9_3 : Z8.heap.size < z9.i.heap.size := by omega
  have bW9 : Below w.heap.size w z9.i := (bW8.alloc bW8.size _).trans (z9.h.mono (Nat.le_trans bW8.size (by simp)))
  clear sz9 q8_0_0 q8_0_1 q8_1_0 q8_1_1 q8_2_0 q8_2_1 l8_0 l8_1 l8_2 bW8
  generalize Z8.heap.size = b9 at *
  generalize z9.i = Z9 at *
  clear z9
  go_wp2_with fail
  refine (inf_any _).mono ?_
  rintro e w' ⟨rfl, rfl⟩
  go_wp2_with fail
  have m0 : b4 < Z9.heap.size + 1 := by omega
  have m1 : b7 < Z9.heap.size + 1 := by omega
  have m2 : b8 < Z9.heap.size + 1 := by omega
  have m3 : b9 < Z9.heap.size + 1 := by omega
  refine wp_region_bw (Z9.heap.size + 1) _ (Below.refl _ _) (by kernel_rfl) (by kernel_rfl) ?_
  repeat (go_big_quiet_step ((first
    | (go_at_call 41; exact Calls.bw_of (by simp) (at_any _ _ _))
    | (go_at_call 21; exact Calls.bw_of (by simp) (n_dist _))
    | (go_at_call 48; exact Calls.bw_same (nan_any _))
    | (go_at_call 39; exact Calls.bw_same (K4.out _ _ _ (by first | exact .inl ⟨rfl, rfl⟩ | exact .inr (.inl ⟨rfl, rfl⟩) | exact .inr (.inr ⟨rfl, rfl⟩))))
    | (go_at_call 43; exact Calls.bw_of (by simp) (n_around _))
    | (go_at_call 23; exact Calls.bw_of (by simp) (lives_any _)))))
  refine wpQuiet_nil ?_
  intro x
  go_wp2
  go_ret
  exact gives_of_eq rfl ((bW9.alloc bW9.size _).trans (x.h.mono (Nat.le_succ_of_le bW9.size)))

theorem names_law (w : World) : Calls Try.prog 20 #[] w (Gives (.bool true) w) := by
  obtain ⟨X1, Y1, k1⟩ := n_turn2
  obtain ⟨X2, Y2, k2⟩ := n_from 4609434218613702656 0 (by rw [n_half]; rfl)
  obtain ⟨X3, Y3, k3⟩ := n_from 4674736413210574848 0 (by rw [n_out]; rfl)
  exact names_core X1 Y1 X2 Y2 X3 Y3 w k1 k2 k3

set_option maxRecDepth 100000 in
theorem names_lifted (os : Os) (started : os.Started) (H : Type) (enc : TypeId × Value → H) :
    ReturnsInHanded {} Try.checked os 20 .any (Rows.planeNamesSpec.pre6 enc Try.prog Try.f20 Rows.planeNamesRow.domain false) (Rows.planeNamesSpec.post enc Try.prog Try.f20 false true false false) := by
  refine returnsInHanded_of_change (C := Try.checked) Try.own started (by kernel_rfl) Try.func20
    (ChangeSpec.witness6 (enc := enc) (C := Try.checked) false ⟨#[], #[], []⟩ 8 (by kernel_rfl) (by kernel_rfl) (by kernel_rfl) (by kernel_rfl)) ?_
  intro W base args ds gs before hval0 hW hcnd _
  have hval : ∀ (j : Nat) t v, Try.f20.params[j]? = some t → args[j]? = some v → Value.okWide Try.prog W .any base t v := hval0
  have hW' := hW
  obtain ⟨p, q, hA0, hV, rfl, hfz, hnd⟩ := hW
  have hA : DataW.TrodAll enc Try.prog W 0 (fun _ => true) true Try.f20.params.toList args.toList ds p := hA0
  rw [Try.params20] at hA hval
  obtain ⟨rfl, rfl, rfl⟩ := trodAll_none hA
  obtain ⟨rfl, rfl⟩ := trodVars_none hV
  refine (names_law W).mono fun e W2 ⟨he, x, hx⟩ => ⟨_, he, ?_⟩
  exact law_post hW' rfl rfl rfl (by kernel_rfl) (hx ▸ x.h)

theorem names_holds : Rows.PlaneNamesSaid :=
  OpenClaim.holds_of_wide 20 Try.f20 rfl rfl rfl rfl rfl rfl rfl ⟨rfl, rfl, rfl, rfl, rfl⟩ rfl rfl rfl rfl rfl (by kernel_rfl) Try.func20 (by kernel_rfl)
    (of_decide_eq_true (by kernel_rfl)) (by unfold Func.isWrapper; rw [if_neg (of_decide_eq_false (by kernel_rfl))]; exact ⟨rfl, rfl⟩)
    (fun os started H enc _ => names_lifted os started H enc)
end Go.Proofs.Ytilimgjmiijkiaa
