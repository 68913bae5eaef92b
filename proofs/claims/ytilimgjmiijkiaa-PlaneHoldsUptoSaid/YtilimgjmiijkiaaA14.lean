/- Contracts of plane, 14: the chapter's examples. -/
import Derived.Test.YtilimgjmiijkiaaA13
import Derived.Test.YtilimgjmiijkiaaA12
import Derived.Test.YtilimgjmiijkiaaA8
import Derived.Test.YtilimgjmiijkiaaA5
namespace Go.Proofs.Ytilimgjmiijkiaa
open Go.RowKit
attribute [local go_sem] BW.cell BW.frozen

set_option maxHeartbeats 1000000 in
theorem join_none (A : Option Addr) (c : Nat) (w : World) : Calls Try.prog 28 #[.slice A 0 c] w (Gives (.tuple #[.agg #[.int .i16 0, .int .i16 0, .int .i16 0, .int .i16 0], .bool false]) w) := by
  go_enter Try.func28, Try.ntmps28
  go_wp2
  exact bodyPost_ret (v := .tuple #[.agg #[.int .i16 0, .int .i16 0, .int .i16 0, .int .i16 0], .bool false]) (by simp [results, Try.results28, go_sem]) rfl (gives_of ((Below.refl _ w).alloc (Nat.le_refl _) _))

theorem ex_turn (w : World) : Calls Try.prog 35 #[.agg #[.int .i16 3, .int .i16 1], .agg #[.int .i16 1, .int .i16 1], .int .i64 1] w (Gives (.tuple #[.agg #[.int .i16 1, .int .i16 3], .bool true]) w) :=
  turn_any 3 1 1 1 1 w (by decide) (by decide) (by decide) (by decide) (by decide) (by decide) (by decide) (by decide)
theorem ex_from (w : World) : Calls Try.prog 33 #[.complex .f64 4607182418800017408 13835058055282163712] w (Gives (.tuple #[.agg #[.int .i16 1, .int .i16 (-2)], .bool true]) w) := by
  have h := from_FI false false 1 (-2) w (by decide) (by decide)
  have e1 : FI false 1 = 4607182418800017408 := by decide +kernel
  have e2 : FI false (-2) = 13835058055282163712 := by decide +kernel
  rw [e1, e2] at h
  exact h
theorem ex_dist (w : World) : Calls Try.prog 21 #[.agg #[.int .i16 0, .int .i16 0], .agg #[.int .i16 3, .int .i16 (-4)]] w (Gives (.int .i64 7) w) :=
  dist_any 0 0 3 (-4) w (by decide) (by decide) (by decide) (by decide) (by decide) (by decide) (by decide) (by decide)
theorem ex_step (w : World) : Calls Try.prog 24 #[.agg #[.int .i16 0, .int .i16 0], .agg #[.int .i16 3, .int .i16 (-4)], .int .i64 5] w (Gives (.agg #[.int .i16 3, .int .i16 (-2)]) w) :=
  step_any 0 0 3 (-4) 5 w (by decide) (by decide) (by decide) (by decide) (by decide) (by decide) (by decide) (by decide)
theorem ex_around (w : World) : Calls Try.prog 43 #[.agg #[.int .i16 5, .int .i16 5], .int .i64 2] w (Gives (.agg #[.int .i16 3, .int .i16 3, .int .i16 7, .int .i16 7]) w) :=
  around_any 5 5 2 w (by decide) (by decide) (by decide) (by decide)
theorem ex_sector (w : World) : Calls Try.prog 39 #[.complex .f64 4611686018427387904 4609434218613702656] w (Keeps (.int .i64 1) w) := by
  have h := sector_any false false 4611686018427387904 4609434218613702656 w (by decide) (by decide)
  rw [word_false, word_false] at h
  have e : sec false false 4611686018427387904 4609434218613702656 = 1 := by decide +kernel
  rw [e] at h
  exact h
theorem ex_middle (A : Option Addr) (c : Nat) (w : World) (h : PRd w w.heap.size A 2 [(0, 0), (1, 3)]) (hc : 2 ≤ c) : Calls Try.prog 37 #[.slice A 2 c] w (Gives (.complex .f64 4602678819172646912 4609434218613702656) w) := by
  have h' := middle_some A 2 c [(0, 0), (1, 3)] w h (by decide) (by decide) hc
  have e1 : dv (sX [(0, 0), (1, 3)]) (2 : Nat) = 4602678819172646912 := by decide +kernel
  have e2 : dv (sY [(0, 0), (1, 3)]) (2 : Nat) = 4609434218613702656 := by decide +kernel
  rw [e1, e2] at h'
  exact h'

theorem grow {w a b : World} (h : Below w.heap.size w a) (k : Below a.heap.size a b) : Below w.heap.size w b := h.trans (k.mono h.size)

set_option maxHeartbeats 4000000 in
theorem lives_any (w : World) : Calls Try.prog 23 #[] w (Gives (.bool true) w) := by
  go_enter Try.func23, Try.ntmps23
  go_wp2_with fail
  refine (at_any _ _ _).mono ?_
  rintro e w' ⟨rfl, x1, rfl⟩
  go_wp2_with fail
  refine (at_any _ _ _).mono ?_
  rintro e w' ⟨rfl, x2, rfl⟩
  go_wp2_with fail
  refine (ex_turn _).mono ?_
  rintro e w' ⟨rfl, y, rfl⟩
  have bY := grow (grow x1.h x2.h) y.h
  generalize y.i = Y at bY ⊢
  clear y x2 x1
  go_wp2_with fail
  refine (ex_from _).mono ?_
  rintro e w' ⟨rfl, z, rfl⟩
  have p0 : z.i.cell? ⟨Y.heap.size, 0, none⟩ = some (.int .i16 1) := by rw [z.cell (by simp)]; simp [go_sem]
  have p1 : z.i.cell? ⟨Y.heap.size, 1, none⟩ = some (.int .i16 3) := by rw [z.cell (by simp)]; simp [go_sem]
  have l1 : Y.heap.size < z.i.heap.size := by have := z.size; simp at this; omega
  have bZ := grow (bY.alloc bY.size _) z.h
  generalize z.i = Z at *
  clear z
  generalize Y.heap.size = b1 at *
  clear bY Y
  go_wp2_with fail
  refine (join_none _ _ _).mono ?_
  rintro e w' ⟨rfl, u, rfl⟩
  have q0 : u.i.cell? ⟨Z.heap.size, 0, none⟩ = some (.int .i16 1) := by rw [u.cell (by simp)]; simp [go_sem]
  have q1 : u.i.cell? ⟨Z.heap.size, 1, none⟩ = some (.int .i16 (-2)) := by rw [u.cell (by simp)]; simp [go_sem]
  have p0' : u.i.cell? ⟨b1, 0, none⟩ = some (.int .i16 1) := by rw [u.cell (by simp; omega), World.cell?_alloc_lt _ _ _ (by simpa using l1)]; exact p0
  have p1' : u.i.cell? ⟨b1, 1, none⟩ = some (.int .i16 3) := by rw [u.cell (by simp; omega), World.cell?_alloc_lt _ _ _ (by simpa using l1)]; exact p1
  have l2 : Z.heap.size < u.i.heap.size := by have := u.size; simp at this; omega
  have bU := grow (bZ.alloc bZ.size _) u.h
  generalize u.i = U at *
  clear u
  clear p0 p1
  have l1' : b1 < U.heap.size := by omega
  generalize Z.heap.size = b3 at *
  clear bZ l1
  go_wp2_with fail
  refine (at_any _ _ _).mono ?_
  rintro e w' ⟨rfl, x1, rfl⟩
  go_wp2_with fail
  refine (at_any _ _ _).mono ?_
  rintro e w' ⟨rfl, x2, rfl⟩
  have bX := grow (grow (bU.alloc bU.size _) x1.h) x2.h
  have sX1 := x1.size
  have sX2 := x2.size
  have kX : ∀ b o, b < U.heap.size → x2.i.cell? ⟨b, o, none⟩ = U.cell? ⟨b, o, none⟩ := fun b o h => by
    simp at sX1
    rw [x2.cell (by show b < _; omega), x1.cell (by show b < _; simp; omega), World.cell?_alloc_lt _ _ _ h]
  have q0' := (kX b3 0 l2).trans q0
  have q1' := (kX b3 1 l2).trans q1
  have p0 := (kX b1 0 l1').trans p0'
  have p1 := (kX b1 1 l1').trans p1'
  have lX1 : b1 < x2.i.heap.size := by simp at sX1; omega
  have lX3 : b3 < x2.i.heap.size := by simp at sX1; omega
  clear kX q0 q1 p0' p1' l1' l2 bU sX1 sX2
  generalize x2.i = X at *
  have hP : PRd (X.alloc (Obj.cells #[.int .i16 0, .int .i16 0, .int .i16 1, .int .i16 3] 24)) (X.alloc (Obj.cells #[.int .i16 0, .int .i16 0, .int .i16 1, .int .i16 3] 24)).heap.size (some ⟨X.heap.size, 0, none⟩) 2 [(0, 0), (1, 3)] := by
    refine ⟨rfl, by decide, fun _ => ⟨_, _, rfl, by simp, fun i p hp => ?_⟩⟩
    match i, hp with
    | 0, hp => cases hp; constructor <;> simp [go_sem]
    | 1, hp => cases hp; constructor <;> simp [go_sem]
  have HP := Lib.hid hP
  clear hP
  go_wp2_with fail
  refine (ex_middle _ _ _ HP.out (by decide)).mono ?_
  rintro e w' ⟨rfl, v, rfl⟩
  have bV := grow (bX.alloc bX.size _) v.h
  have sV := v.size
  have kV : ∀ b o, b < X.heap.size → v.i.cell? ⟨b, o, none⟩ = X.cell? ⟨b, o, none⟩ := fun b o h => by
    rw [v.cell (by show b < _; simp; omega), World.cell?_alloc_lt _ _ _ h]
  have q0 := (kV b3 0 lX3).trans q0'
  have q1 := (kV b3 1 lX3).trans q1'
  have r0 := (kV b1 0 lX1).trans p0
  have r1 := (kV b1 1 lX1).trans p1
  have l1 : b1 < v.i.heap.size := by simp at sV; omega
  have l3 : b3 < v.i.heap.size := by simp at sV; omega
  clear kV q0' q1' p0 p1 lX1 lX3 sV HP
  generalize v.i = V at *
  clear v bX x1 x2
  have hc1 : (FloatKind.f64.format.order 4602678819172646912 4602678819172646912 == some .eq) = true := by decide +kernel
  have hc2 : (FloatKind.f64.format.order 4609434218613702656 4609434218613702656 == some .eq) = true := by decide +kernel
  go_wp2
  refine wp_region_bw V.heap.size V (Below.refl _ _) (by kernel_rfl) (by kernel_rfl) ?_
  repeat (go_big_quiet_step ((first
    | (go_at_call 41; exact Calls.bw_of (Nat.le_refl _) (at_any _ _ _))
    | (go_at_call 21; exact Calls.bw_of (Nat.le_refl _) (ex_dist _))
    | (go_at_call 24; exact Calls.bw_of (Nat.le_refl _) (ex_step _))
    | (go_at_call 39; exact Calls.bw_same (ex_sector _))
    | (go_at_call 43; exact Calls.bw_of (Nat.le_refl _) (ex_around _)))))
  refine wpQuiet_nil ?_
  intro x
  go_wp2
  go_ret
  exact gives_of_eq rfl (grow bV x.h)
end Go.Proofs.Ytilimgjmiijkiaa
