/- PlaneBack: a point is what its complex number is; half a step or a quarter beside it there is none. No conditions. -/
import Derived.Test.YtilimgjmiijkiaaL
import Derived.Test.YtilimgjmiijkiaaA7
import Derived.Test.YtilimgjmiijkiaaA8
import Derived.Test.YtilimgjmiijkiaaA14
import Derived.Test.YtilimgjmiijkiaaA15
import Derived.Test.YtilimgjmiijkiaaRows
namespace Go.Proofs.Ytilimgjmiijkiaa
open Go.ChangeShapes Go.WideShapes Go.ChangeAt Go.RowKit Go.Joins Ieee
attribute [local go_sem] BW.cell BW.frozen
set_option linter.unusedVariables false

theorem from_to (x y : Int) (w : World) (h1 : -32768 ≤ x) (h2 : x ≤ 32767) (h3 : -32768 ≤ y) (h4 : y ≤ 32767) : Calls Try.prog 33 #[.complex .f64 (fl x) (fl y)] w (Gives (.tuple #[.agg #[.int .i16 x, .int .i16 y], .bool true]) w) := by
  have h := from_FI false false x y w (by omega) (by omega)
  rw [← fl_FI, ← fl_FI] at h
  have e : (inP x && inP y) = true := by unfold inP; simp; omega
  unfold pin at h
  rw [e] at h
  exact h

theorem from_none (a b : Nat) (w : World) (h : (wh a && wh b) = false) : ∃ X Y, ∀ w, Calls Try.prog 33 #[.complex .f64 a b] w (Gives (.tuple #[.agg #[.int .i16 X, .int .i16 Y], .bool false]) w) :=
  ⟨frX a b, frY a b, fun w => by have := from_any a b w; rw [h] at this; exact this⟩

set_option maxHeartbeats 1000000 in
theorem back_core (x y X1 Y1 X2 Y2 : Int) (A B : Nat) (w : World) (m1 : ∀ w, (binOp .add 39 (.complex .f64 (fl x) (fl y)) (.complex .f64 4602678819172646912 0)).run Try.prog w = .ok (.complex .f64 A (fl y)) w)
    (m2 : ∀ w, (binOp .sub 39 (.complex .f64 (fl x) (fl y)) (.complex .f64 0 4598175219545276416)).run Try.prog w = .ok (.complex .f64 (fl x) B) w)
    (h0 : ∀ w, Calls Try.prog 33 #[.complex .f64 (fl x) (fl y)] w (Gives (.tuple #[.agg #[.int .i16 x, .int .i16 y], .bool true]) w))
    (h1 : ∀ w, Calls Try.prog 33 #[.complex .f64 A (fl y)] w (Gives (.tuple #[.agg #[.int .i16 X1, .int .i16 Y1], .bool false]) w))
    (h2 : ∀ w, Calls Try.prog 33 #[.complex .f64 (fl x) B] w (Gives (.tuple #[.agg #[.int .i16 X2, .int .i16 Y2], .bool false]) w)) :
    Calls Try.prog 13 #[.agg #[.int .i16 x, .int .i16 y]] w (Gives (.bool true) w) := by
  have HT := Lib.hid (to_any x y)
  have K0 := Lib.hid h0
  have K1 := Lib.hid h1
  have K2 := Lib.hid h2
  clear h0 h1 h2
  generalize fl x = FX at *
  generalize fl y = FY at *
  go_enter Try.func13, Try.ntmps13
  go_wp2_with fail
  refine (Calls.bw_at (B := w.heap.size + 1) (Below.refl _ _) (by simp) (HT.out _)).mono ?_
  rintro e w' ⟨rfl, z1, rfl⟩
  go_wp2_with fail
  refine (Calls.bw_of (by simp) (K0.out _)).mono ?_
  rintro e w' ⟨rfl, z, rfl⟩
  have q0 : z.i.cell? ⟨w.heap.size, 0, none⟩ = some (.int .i16 x) := by rw [z.cell (by simp)]; simp [go_sem]
  have q1 : z.i.cell? ⟨w.heap.size, 1, none⟩ = some (.int .i16 y) := by rw [z.cell (by simp)]; simp [go_sem]
  have l0 : w.heap.size < z.i.heap.size := by have := z.size; simp at this; omega
  have bZ : Below w.heap.size w z.i := ((Below.refl _ w).alloc (Nat.le_refl _) _).trans (z.h.mono (by simp))
  generalize z.i = Z at *
  clear z z1
  go_wp2_with fail
  refine (K1.out _).mono ?_
  rintro e w' ⟨rfl, u, rfl⟩
  have r0 : u.i.cell? ⟨Z.heap.size, 0, none⟩ = some (.int .i16 x) := by rw [u.cell (by simp)]; simp [go_sem]
  have r1 : u.i.cell? ⟨Z.heap.size, 1, none⟩ = some (.int .i16 y) := by rw [u.cell (by simp)]; simp [go_sem]
  have s0 : u.i.cell? ⟨w.heap.size, 0, none⟩ = some (.int .i16 x) := by rw [u.cell (by simp; omega), World.cell?_alloc_lt _ _ _ (by simpa using l0)]; exact q0
  have s1 : u.i.cell? ⟨w.heap.size, 1, none⟩ = some (.int .i16 y) := by rw [u.cell (by simp; omega), World.cell?_alloc_lt _ _ _ (by simpa using l0)]; exact q1
  have k1 : Z.heap.size < u.i.heap.size := by have := u.size; simp at this; omega
  have k0 : w.heap.size < u.i.heap.size := by omega
  have bU : Below w.heap.size w u.i := (bZ.alloc bZ.size _).trans (u.h.mono (Nat.le_trans bZ.size (by simp)))
  generalize u.i = U at *
  generalize Z.heap.size = b1 at *
  clear u bZ l0 q0 q1
  go_wp2_with fail
  refine (K2.out _).mono ?_
  rintro e w' ⟨rfl, u, rfl⟩
  have q0 : u.i.cell? ⟨b1, 0, none⟩ = some (.int .i16 x) := by rw [u.cell (by simp; omega), World.cell?_alloc_lt _ _ _ (by simpa using k1)]; exact r0
  have q1 : u.i.cell? ⟨b1, 1, none⟩ = some (.int .i16 y) := by rw [u.cell (by simp; omega), World.cell?_alloc_lt _ _ _ (by simpa using k1)]; exact r1
  have p0 : u.i.cell? ⟨w.heap.size, 0, none⟩ = some (.int .i16 x) := by rw [u.cell (by simp; omega), World.cell?_alloc_lt _ _ _ (by simpa using k0)]; exact s0
  have p1 : u.i.cell? ⟨w.heap.size, 1, none⟩ = some (.int .i16 y) := by rw [u.cell (by simp; omega), World.cell?_alloc_lt _ _ _ (by simpa using k0)]; exact s1
  have l1 : b1 < u.i.heap.size := by have := u.size; simp at this; omega
  have l0 : w.heap.size < u.i.heap.size := by have := u.size; simp at this; omega
  have bV : Below w.heap.size w u.i := (bU.alloc bU.size _).trans (u.h.mono (Nat.le_trans bU.size (by simp)))
  generalize u.i = V at *
  clear u r0 r1 s0 s1 k1 k0
  go_wp2_with fail
  refine (lives_any _).mono ?_
  rintro e w' ⟨rfl, v, rfl⟩
  have bX : Below w.heap.size w v.i := (bV.alloc bV.size _).trans (v.h.mono (Nat.le_trans bV.size (by simp)))
  generalize v.i = X at *
  clear v
  go_wp2
  go_ret
  exact gives_of_eq rfl bX

theorem back_law (x y : Int) (w : World) (h1 : -32768 ≤ x) (h2 : x ≤ 32767) (h3 : -32768 ≤ y) (h4 : y ≤ 32767) : Calls Try.prog 13 #[.agg #[.int .i16 x, .int .i16 y]] w (Gives (.bool true) w) := by
  obtain ⟨A, a1, a2⟩ := half_fl x h1 h2
  obtain ⟨B, b1, b2⟩ := quarter_fl y h3 h4
  obtain ⟨c1, -⟩ := fl_add_zero y h3 h4
  obtain ⟨-, d1⟩ := fl_add_zero x h1 h2
  have e1 : cSumBits .add .f64 (fl x) (fl y) 4602678819172646912 0 = some (A, fl y) := by
    unfold cSumBits
    show (double.add _ _).bind _ = _
    rw [a1]
    show (double.add _ _).bind _ = _
    rw [c1]; rfl
  have e2 : cSumBits .sub .f64 (fl x) (fl y) 0 4598175219545276416 = some (fl x, B) := by
    unfold cSumBits
    show (double.sub _ _).bind _ = _
    rw [d1]
    show (double.sub _ _).bind _ = _
    rw [b1]; rfl
  obtain ⟨X1, Y1, k1⟩ := from_none A (fl y) w (by rw [a2]; rfl)
  obtain ⟨X2, Y2, k2⟩ := from_none (fl x) B w (by rw [b2, Bool.and_false])
  exact back_core x y X1 Y1 X2 Y2 A B w (fun w => run_complex_sum (P := Try.prog) w .add (.inl rfl) 39 .f64 _ _ _ _ _ _ e1) (fun w => run_complex_sum (P := Try.prog) w .sub (.inr rfl) 39 .f64 _ _ _ _ _ _ e2)
    (fun w => from_to x y w h1 h2 h3 h4) k1 k2

set_option maxRecDepth 100000 in
theorem back_lifted (os : Os) (started : os.Started) (H : Type) (enc : TypeId × Value → H) :
    ReturnsInHanded {} Try.checked os 13 .any (Rows.planeBackSpec.pre6 enc Try.prog Try.f13 Rows.planeBackRow.domain false) (Rows.planeBackSpec.post enc Try.prog Try.f13 false true false false) := by
  refine returnsInHanded_of_change (C := Try.checked) Try.own started (by kernel_rfl) Try.func13
    (ChangeSpec.witness6 (enc := enc) (C := Try.checked) false ⟨#[], #[.agg #[.int .i16 0, .int .i16 0]], []⟩ 8 (by kernel_rfl) (by kernel_rfl) (by kernel_rfl) (by kernel_rfl)) ?_
  intro W base args ds gs before hval0 hW hcnd _
  have hval : ∀ (j : Nat) t v, Try.f13.params[j]? = some t → args[j]? = some v → Value.okWide Try.prog W .any base t v := hval0
  have hW' := hW
  obtain ⟨p, q, hA0, hV, rfl, hfz, hnd⟩ := hW
  have hA : DataW.TrodAll enc Try.prog W 0 (fun _ => true) true Try.f13.params.toList args.toList ds p := hA0
  rw [Try.params13] at hA hval
  obtain ⟨v0, d0, rfl, rfl, h0⟩ := trodAll_one hA
  obtain ⟨rfl, rfl⟩ := trodVars_none hV
  obtain ⟨a0x, a0y, rfl, rfl, rfl, g00, g01, g02, g03⟩ := open_pt (hval 0 24 _ rfl rfl) h0
  refine (back_law _ _ W g00 g01 g02 g03).mono fun e W2 ⟨he, x, hx⟩ => ⟨_, he, ?_⟩
  exact law_post hW' rfl rfl rfl (by kernel_rfl) (hx ▸ x.h)

theorem back_holds : Rows.PlaneBackSaid :=
  OpenClaim.holds_of_wide 13 Try.f13 rfl rfl rfl rfl rfl rfl rfl ⟨rfl, rfl, rfl, rfl, rfl⟩ rfl rfl rfl rfl rfl (by kernel_rfl) Try.func13 (by kernel_rfl)
    (of_decide_eq_true (by kernel_rfl)) (by unfold Func.isWrapper; rw [if_neg (of_decide_eq_false (by kernel_rfl))]; exact ⟨rfl, rfl⟩)
    (fun os started H enc _ => back_lifted os started H enc)
end Go.Proofs.Ytilimgjmiijkiaa
