/- PlaneTurns: a point turned about another is what the reference says. No conditions. -/
import Derived.Test.YtilimgjmiijkiaaL
import Derived.Test.YtilimgjmiijkiaaA9
import Derived.Test.YtilimgjmiijkiaaA14
import Derived.Test.YtilimgjmiijkiaaRows
namespace Go.Proofs.Ytilimgjmiijkiaa
open Go.ChangeShapes Go.WideShapes Go.ChangeAt Go.RowKit Go.Joins
attribute [local go_sem] BW.cell BW.frozen

set_option maxHeartbeats 1000000 in
theorem turns_core (px py ax ay q X Y : Int) (ok : Bool) (w : World)
    (hs : ∀ w, Calls Try.prog 35 #[.agg #[.int .i16 px, .int .i16 py], .agg #[.int .i16 ax, .int .i16 ay], .int .i64 q] w (Gives (.tuple #[.agg #[.int .i16 X, .int .i16 Y], .bool ok]) w))
    (hr : ∀ w, Calls Try.prog 36 #[.agg #[.int .i16 px, .int .i16 py], .agg #[.int .i16 ax, .int .i16 ay], .int .i64 q] w (Gives (.tuple #[.agg #[.int .i16 X, .int .i16 Y], .bool ok]) w)) :
    Calls Try.prog 8 #[.agg #[.int .i16 px, .int .i16 py], .agg #[.int .i16 ax, .int .i16 ay], .int .i64 q] w (Gives (.bool true) w) := by
  have HS := Lib.hid hs
  have HR := Lib.hid hr
  clear hs hr
  go_enter Try.func8, Try.ntmps8
  go_wp2_with fail
  refine (HS.out _).mono ?_
  rintro e w' ⟨rfl, z, rfl⟩
  have q0 : z.i.cell? ⟨w.heap.size, 0, none⟩ = some (.int .i16 px) := by rw [z.cell (by simp; omega)]; simp [go_sem]
  have q1 : z.i.cell? ⟨w.heap.size, 1, none⟩ = some (.int .i16 py) := by rw [z.cell (by simp; omega)]; simp [go_sem]
  have q2 : z.i.cell? ⟨w.heap.size + 1, 0, none⟩ = some (.int .i16 ax) := by rw [z.cell (by simp)]; simp [go_sem]
  have q3 : z.i.cell? ⟨w.heap.size + 1, 1, none⟩ = some (.int .i16 ay) := by rw [z.cell (by simp)]; simp [go_sem]
  have l1 : w.heap.size + 1 < z.i.heap.size := by have := z.size; simp at this; omega
  have l0 : w.heap.size < z.i.heap.size := by omega
  have bZ : Below w.heap.size w z.i := (((Below.refl _ w).alloc (Nat.le_refl _) _).alloc (by simp) _).trans (z.h.mono (by simp; omega))
  generalize z.i = Z at *
  clear z
  go_wp2_with fail
  refine (HR.out _).mono ?_
  rintro e w' ⟨rfl, u, rfl⟩
  have r0 : u.i.cell? ⟨Z.heap.size, 0, none⟩ = some (.int .i16 X) := by rw [u.cell (by simp)]; simp [go_sem]
  have r1 : u.i.cell? ⟨Z.heap.size, 1, none⟩ = some (.int .i16 Y) := by rw [u.cell (by simp)]; simp [go_sem]
  have k0 : Z.heap.size < u.i.heap.size := by have := u.size; simp at this; omega
  have bU : Below w.heap.size w u.i := (bZ.alloc bZ.size _).trans (u.h.mono (by simp; omega))
  generalize u.i = U at *
  clear u
  go_wp2_with fail
  refine (lives_any _).mono ?_
  rintro e w' ⟨rfl, v, rfl⟩
  have bV : Below w.heap.size w v.i := (bU.alloc bU.size _).trans (v.h.mono (by simp; have := bU.size; omega))
  generalize v.i = V at *
  clear v
  go_wp2
  go_ret
  exact gives_of_eq rfl bV

theorem turns_law (px py ax ay q : Int) (w : World) (h1 : -32768 ≤ px) (h2 : px ≤ 32767) (h3 : -32768 ≤ py) (h4 : py ≤ 32767) (h5 : -32768 ≤ ax) (h6 : ax ≤ 32767) (h7 : -32768 ≤ ay) (h8 : ay ≤ 32767) :
    Calls Try.prog 8 #[.agg #[.int .i16 px, .int .i16 py], .agg #[.int .i16 ax, .int .i16 ay], .int .i64 q] w (Gives (.bool true) w) := by
  obtain ⟨X, Y, ok, he⟩ : ∃ X Y ok, pin (rotX (qrt q) (px - ax) (py - ay) + ax) (rotY (qrt q) (px - ax) (py - ay) + ay) = .tuple #[.agg #[.int .i16 X, .int .i16 Y], .bool ok] := ⟨_, _, _, rfl⟩
  refine turns_core px py ax ay q X Y ok w (fun w => ?_) (fun w => ?_)
  · have h := turn_any px py ax ay q w h1 h2 h3 h4 h5 h6 h7 h8
    rw [he] at h; exact h
  · have h := rturn_any px py ax ay q w h1 h2 h3 h4 h5 h6 h7 h8
    rw [he] at h; exact h

set_option maxRecDepth 100000 in
theorem turns_lifted (os : Os) (started : os.Started) (H : Type) (enc : TypeId × Value → H) :
    ReturnsInHanded {} Try.checked os 8 .any (Rows.planeTurnsSpec.pre6 enc Try.prog Try.f8 Rows.planeTurnsRow.domain false) (Rows.planeTurnsSpec.post enc Try.prog Try.f8 false true false false) := by
  refine returnsInHanded_of_change (C := Try.checked) Try.own started (by kernel_rfl) Try.func8
    (ChangeSpec.witness6 (enc := enc) (C := Try.checked) false ⟨#[], #[.agg #[.int .i16 0, .int .i16 0], .agg #[.int .i16 0, .int .i16 0], .int .i64 0], []⟩ 8 (by kernel_rfl) (by kernel_rfl) (by kernel_rfl) (by kernel_rfl)) ?_
  intro W base args ds gs before hval0 hW hcnd _
  have hval : ∀ (j : Nat) t v, Try.f8.params[j]? = some t → args[j]? = some v → Value.okWide Try.prog W .any base t v := hval0
  have hW' := hW
  obtain ⟨p, q, hA0, hV, rfl, hfz, hnd⟩ := hW
  have hA : DataW.TrodAll enc Try.prog W 0 (fun _ => true) true Try.f8.params.toList args.toList ds p := hA0
  rw [Try.params8] at hA hval
  obtain ⟨v0, v1, v2, d0, d1, d2, p0, p1, p2, rfl, rfl, rfl, h0, h1, h2⟩ := trodAll_three hA
  obtain ⟨rfl, rfl⟩ := trodVars_none hV
  obtain ⟨a0x, a0y, rfl, rfl, rfl, g00, g01, g02, g03⟩ := open_pt (hval 0 24 _ rfl rfl) h0
  obtain ⟨a1x, a1y, rfl, rfl, rfl, g10, g11, g12, g13⟩ := open_pt (hval 1 24 _ rfl rfl) h1
  obtain ⟨a2x, rfl, rfl, rfl, g20, g21⟩ := open_i (hval 2 3 _ rfl rfl) h2
  refine (turns_law _ _ _ _ _ W g00 g01 g02 g03 g10 g11 g12 g13).mono fun e W2 ⟨he, x, hx⟩ => ⟨_, he, ?_⟩
  exact law_post hW' rfl rfl rfl (by kernel_rfl) (hx ▸ x.h)

theorem turns_holds : Rows.PlaneTurnsSaid :=
  OpenClaim.holds_of_wide 8 Try.f8 rfl rfl rfl rfl rfl rfl rfl ⟨rfl, rfl, rfl, rfl, rfl⟩ rfl rfl rfl rfl rfl (by kernel_rfl) Try.func8 (by kernel_rfl)
    (of_decide_eq_true (by kernel_rfl)) (by unfold Func.isWrapper; rw [if_neg (of_decide_eq_false (by kernel_rfl))]; exact ⟨rfl, rfl⟩)
    (fun os started H enc _ => turns_lifted os started H enc)
end Go.Proofs.Ytilimgjmiijkiaa
