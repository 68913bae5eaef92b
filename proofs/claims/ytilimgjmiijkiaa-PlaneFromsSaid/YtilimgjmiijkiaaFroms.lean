/- PlaneFroms: the point that a complex number is, is what the reference says. No conditions. -/
import Derived.Test.YtilimgjmiijkiaaL
import Derived.Test.YtilimgjmiijkiaaA7
import Derived.Test.YtilimgjmiijkiaaA14
import Derived.Test.YtilimgjmiijkiaaA15
import Derived.Test.YtilimgjmiijkiaaRows
namespace Go.Proofs.Ytilimgjmiijkiaa
open Go.ChangeShapes Go.WideShapes Go.ChangeAt Go.RowKit Go.Joins
attribute [local go_sem] BW.cell BW.frozen

set_option maxHeartbeats 1000000 in
theorem froms_core (re im X Y : Int) (A B : Nat) (ok : Bool) (w : World) (H1 : ∀ w, (callFunc 32 #[.int .u64 re]).run Try.prog w = .ok (.value (.float .f64 A)) w) (H2 : ∀ w, (callFunc 32 #[.int .u64 im]).run Try.prog w = .ok (.value (.float .f64 B)) w)
    (hs : ∀ w, Calls Try.prog 33 #[.complex .f64 A B] w (Gives (.tuple #[.agg #[.int .i16 X, .int .i16 Y], .bool ok]) w))
    (hr : ∀ w, Calls Try.prog 34 #[.float .f64 A, .float .f64 B] w (Gives (.tuple #[.agg #[.int .i16 X, .int .i16 Y], .bool ok]) w)) :
    Calls Try.prog 7 #[.int .u64 re, .int .u64 im] w (Gives (.bool true) w) := by
  have HS := Lib.hid hs
  have HR := Lib.hid hr
  clear hs hr
  go_enter Try.func7, Try.ntmps7
  go_wp2_with fail
  refine (HS.out _).mono ?_
  rintro e w' ⟨rfl, z, rfl⟩
  have bZ : Below w.heap.size w z.i := z.h
  generalize z.i = Z at *
  clear z
  go_wp2_with fail
  refine (HR.out _).mono ?_
  rintro e w' ⟨rfl, u, rfl⟩
  have r0 : u.i.cell? ⟨Z.heap.size, 0, none⟩ = some (.int .i16 X) := by rw [u.cell (by simp)]; simp [go_sem]
  have r1 : u.i.cell? ⟨Z.heap.size, 1, none⟩ = some (.int .i16 Y) := by rw [u.cell (by simp)]; simp [go_sem]
  have k0 : Z.heap.size < u.i.heap.size := by have := u.size; simp at this; omega
  have bU : Below w.heap.size w u.i := (bZ.alloc bZ.size _).trans (u.h.mono (Nat.le_trans bZ.size (by simp)))
  generalize u.i = U at *
  clear u
  go_wp2_with fail
  refine (lives_any _).mono ?_
  rintro e w' ⟨rfl, v, rfl⟩
  have bV : Below w.heap.size w v.i := (bU.alloc bU.size _).trans (v.h.mono (Nat.le_trans bU.size (by simp)))
  generalize v.i = V at *
  clear v
  go_wp2
  go_ret
  exact gives_of_eq rfl bV

theorem froms_law (re im : Int) (w : World) : Calls Try.prog 7 #[.int .u64 re, .int .u64 im] w (Gives (.bool true) w) :=
  froms_core re im _ _ re.toNat im.toNat _ w (run_frombits re) (run_frombits im) (fun w => from_any _ _ w) (fun w => rfrom_any _ _ w)

set_option maxRecDepth 100000 in
theorem froms_lifted (os : Os) (started : os.Started) (H : Type) (enc : TypeId × Value → H) :
    ReturnsInHanded {} Try.checked os 7 .any (Rows.planeFromsSpec.pre6 enc Try.prog Try.f7 Rows.planeFromsRow.domain false) (Rows.planeFromsSpec.post enc Try.prog Try.f7 false true false false) := by
  refine returnsInHanded_of_change (C := Try.checked) Try.own started (by kernel_rfl) Try.func7
    (ChangeSpec.witness6 (enc := enc) (C := Try.checked) false ⟨#[], #[.int .u64 0, .int .u64 0], []⟩ 8 (by kernel_rfl) (by kernel_rfl) (by kernel_rfl) (by kernel_rfl)) ?_
  intro W base args ds gs before hval0 hW hcnd _
  have hval : ∀ (j : Nat) t v, Try.f7.params[j]? = some t → args[j]? = some v → Value.okWide Try.prog W .any base t v := hval0
  have hW' := hW
  obtain ⟨p, q, hA0, hV, rfl, hfz, hnd⟩ := hW
  have hA : DataW.TrodAll enc Try.prog W 0 (fun _ => true) true Try.f7.params.toList args.toList ds p := hA0
  rw [Try.params7] at hA hval
  obtain ⟨v0, v1, d0, d1, p0, p1, rfl, rfl, rfl, h0, h1⟩ := trodAll_two hA
  obtain ⟨rfl, rfl⟩ := trodVars_none hV
  obtain ⟨a0x, rfl, rfl, rfl, g00, g01⟩ := open_u (hval 0 44 _ rfl rfl) h0
  obtain ⟨a1x, rfl, rfl, rfl, g10, g11⟩ := open_u (hval 1 44 _ rfl rfl) h1
  refine (froms_law _ _ W).mono fun e W2 ⟨he, x, hx⟩ => ⟨_, he, ?_⟩
  exact law_post hW' rfl rfl rfl (by kernel_rfl) (hx ▸ x.h)

theorem froms_holds : Rows.PlaneFromsSaid :=
  OpenClaim.holds_of_wide 7 Try.f7 rfl rfl rfl rfl rfl rfl rfl ⟨rfl, rfl, rfl, rfl, rfl⟩ rfl rfl rfl rfl rfl (by kernel_rfl) Try.func7 (by kernel_rfl)
    (of_decide_eq_true (by kernel_rfl)) (by unfold Func.isWrapper; rw [if_neg (of_decide_eq_false (by kernel_rfl))]; exact ⟨rfl, rfl⟩)
    (fun os started H enc _ => froms_lifted os started H enc)
end Go.Proofs.Ytilimgjmiijkiaa
