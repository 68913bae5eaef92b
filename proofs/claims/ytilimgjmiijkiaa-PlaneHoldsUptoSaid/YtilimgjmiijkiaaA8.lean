/- Contracts of plane and of the reference, 8: turns. -/
import Derived.Test.YtilimgjmiijkiaaA7
namespace Go.Proofs.Ytilimgjmiijkiaa
open Go.RowKit
attribute [local go_sem] BW.cell BW.frozen

def inP (n : Int) : Bool := decide (-32768 ≤ n ∧ n ≤ 32767)
/-- the point and whether it is in the plane -/
def pin (X Y : Int) : Value := .tuple #[.agg #[.int .i16 (if inP X && inP Y then X else 0), .int .i16 (if inP X && inP Y then Y else 0)], .bool (inP X && inP Y)]

theorem from_FI (z1 z2 : Bool) (X Y : Int) (w : World) (hX : X.natAbs ≤ 1073741824) (hY : Y.natAbs ≤ 1073741824) : Calls Try.prog 33 #[.complex .f64 (FI z1 X) (FI z2 Y)] w (Gives (pin X Y) w) := by
  have h := from_any (FI z1 X) (FI z2 Y) w
  obtain ⟨a1, a2, a3⟩ := wh_FI z1 X hX
  obtain ⟨b1, b2, b3⟩ := wh_FI z2 Y hY
  have tX : tr (FI z1 X) = X := by unfold tr; rw [a2]; rfl
  have tY : tr (FI z2 Y) = Y := by unfold tr; rw [b2]; rfl
  unfold frX frY at h
  rw [a3, b3, tX, tY] at h
  exact h

theorem pin_form (X Y : Int) : ∃ A B c, pin X Y = .tuple #[.agg #[.int .i16 A, .int .i16 B], .bool c] := ⟨_, _, _, rfl⟩

/-- quarters of a turn -/
def rotX (j : Int) (x y : Int) : Int := if j = 0 then x else if j = 1 then -y else if j = 2 then -x else y
def rotY (j : Int) (x y : Int) : Int := if j = 0 then y else if j = 1 then x else if j = 2 then -y else -x
/-- how many quarters count -/
def qrt (q : Int) : Int := (q.tmod 4 + 4).tmod 4

set_option maxHeartbeats 2000000 in
theorem turn_core (px py ax ay q r x y : Int) (w : World) (h1 : -32768 ≤ px) (h2 : px ≤ 32767) (h3 : -32768 ≤ py) (h4 : py ≤ 32767) (h5 : -32768 ≤ ax) (h6 : ax ≤ 32767) (h7 : -32768 ≤ ay) (h8 : ay ≤ 32767)
    (hx : x = px - ax) (hy : y = py - ay) (hq : q.tmod 4 = r) (hr : r = -3 ∨ r = -2 ∨ r = -1 ∨ r = 0 ∨ r = 1 ∨ r = 2 ∨ r = 3) :
    Calls Try.prog 35 #[.agg #[.int .i16 px, .int .i16 py], .agg #[.int .i16 ax, .int .i16 ay], .int .i64 q] w (Gives (pin (rotX ((r + 4).tmod 4) x y + ax) (rotY ((r + 4).tmod 4) x y + ay)) w) := by
  obtain ⟨z1, z2, hs⟩ := csub_FI false false false false px py ax ay (by omega) (by omega) (by omega) (by omega)
  rw [← fl_FI, ← fl_FI, ← fl_FI, ← fl_FI, ← hx, ← hy] at hs
  have hsub := fun w => run_complex_sum (P := Try.prog) w .sub (.inr rfl) 39 .f64 (fl px) (fl py) (fl ax) (fl ay) _ _ hs
  have bx1 : -65535 ≤ x := by omega
  have bx2 : x ≤ 65535 := by omega
  have by1 : -65535 ≤ y := by omega
  have by2 : y ≤ 65535 := by omega
  obtain ⟨z3, z4, ht1⟩ := times_i z1 z2 x y (by omega) (by omega)
  obtain ⟨z5, z6, ht2⟩ := times_i z3 z4 (-y) x (by omega) (by omega)
  obtain ⟨z7, z8, ht3⟩ := times_i z5 z6 (-x) (-y) (by omega) (by omega)
  rw [Int.neg_neg] at ht3
  have hm1 := fun w => run_complex_mul (P := Try.prog) w 39 _ _ _ _ _ _ ht1
  have hm2 := fun w => run_complex_mul (P := Try.prog) w 39 _ _ _ _ _ _ ht2
  have hm3 := fun w => run_complex_mul (P := Try.prog) w 39 _ _ _ _ _ _ ht3
  clear ht1 ht2 ht3 hs hx hy
  rcases hr with rfl | rfl | rfl | rfl | rfl | rfl | rfl
  · obtain ⟨u, v, ha⟩ := cadd_FI z3 z4 false false (-y) x ax ay (by omega) (by omega) (by omega) (by omega)
    rw [← fl_FI, ← fl_FI] at ha
    have hadd := fun w => run_complex_sum (P := Try.prog) w .add (.inl rfl) 39 .f64 _ _ _ _ _ _ ha
    obtain ⟨A, B, c, hpin⟩ := pin_form ((-y) + ax) (x + ay)
    have hf := fun w => from_FI u v ((-y) + ax) (x + ay) w (by omega) (by omega)
    rw [hpin] at hf
    have HF := Lib.hid hf
    have HP := Lib.hid hpin
    clear ha hf hpin
    go_enter Try.func35, Try.ntmps35
    go_wp2
    refine wp_region_bw (w.heap.size + 3) _ (Below.refl _ _) (by kernel_rfl) (by kernel_rfl) ?_
    repeat (go_big_quiet_step ((go_at_call 30; refine Calls.bw_of (by simp <;> omega) (to_any _ _ _))))
    refine wpQuiet_nil ?_
    intro g
    go_wp2
    refine wp_loop_rounds 2 ?_
    rw [rounds_succ]
    go_wp2
    rw [rounds_succ]
    go_wp2_with (first | (go_at_call 30; refine (Calls.bw_of (by simp <;> omega) (to_any _ _ _)).mono ?_; rintro e w' ⟨rfl, g2, rfl⟩) | (go_at_call 33; refine (Calls.bw_of (by simp <;> omega) (HF.out _)).mono ?_; rintro e w' ⟨rfl, g3, rfl⟩))
    refine bodyPost_ret (v := .tuple #[.agg #[.int .i16 A, .int .i16 B], .bool c]) (by simp [results, Try.results35, go_sem]) rfl (gives_of_eq HP.out.symm ?_)
    exact ((((((Below.refl _ w).alloc (Nat.le_refl _) _).alloc (by simp) _).alloc (by simp <;> omega) _).trans (g3.h.mono (by simp <;> omega))).setCell (p := ⟨w.heap.size + 1 + 1, 0, none⟩) (by simp <;> omega) _).setCell (p := ⟨w.heap.size + 1 + 1, 1, none⟩) (by simp <;> omega) _
  · obtain ⟨u, v, ha⟩ := cadd_FI z5 z6 false false (-x) (-y) ax ay (by omega) (by omega) (by omega) (by omega)
    rw [← fl_FI, ← fl_FI] at ha
    have hadd := fun w => run_complex_sum (P := Try.prog) w .add (.inl rfl) 39 .f64 _ _ _ _ _ _ ha
    obtain ⟨A, B, c, hpin⟩ := pin_form ((-x) + ax) ((-y) + ay)
    have hf := fun w => from_FI u v ((-x) + ax) ((-y) + ay) w (by omega) (by omega)
    rw [hpin] at hf
    have HF := Lib.hid hf
    have HP := Lib.hid hpin
    clear ha hf hpin
    go_enter Try.func35, Try.ntmps35
    go_wp2
    refine wp_region_bw (w.heap.size + 3) _ (Below.refl _ _) (by kernel_rfl) (by kernel_rfl) ?_
    repeat (go_big_quiet_step ((go_at_call 30; refine Calls.bw_of (by simp <;> omega) (to_any _ _ _))))
    refine wpQuiet_nil ?_
    intro g
    go_wp2
    refine wp_loop_rounds 3 ?_
    rw [rounds_succ]
    go_wp2
    rw [rounds_succ]
    go_wp2
    rw [rounds_succ]
    go_wp2_with (first | (go_at_call 30; refine (Calls.bw_of (by simp <;> omega) (to_any _ _ _)).mono ?_; rintro e w' ⟨rfl, g2, rfl⟩) | (go_at_call 33; refine (Calls.bw_of (by simp <;> omega) (HF.out _)).mono ?_; rintro e w' ⟨rfl, g3, rfl⟩))
    refine bodyPost_ret (v := .tuple #[.agg #[.int .i16 A, .int .i16 B], .bool c]) (by simp [results, Try.results35, go_sem]) rfl (gives_of_eq HP.out.symm ?_)
    exact ((((((Below.refl _ w).alloc (Nat.le_refl _) _).alloc (by simp) _).alloc (by simp <;> omega) _).trans (g3.h.mono (by simp <;> omega))).setCell (p := ⟨w.heap.size + 1 + 1, 0, none⟩) (by simp <;> omega) _).setCell (p := ⟨w.heap.size + 1 + 1, 1, none⟩) (by simp <;> omega) _
  · obtain ⟨u, v, ha⟩ := cadd_FI z7 z8 false false y (-x) ax ay (by omega) (by omega) (by omega) (by omega)
    rw [← fl_FI, ← fl_FI] at ha
    have hadd := fun w => run_complex_sum (P := Try.prog) w .add (.inl rfl) 39 .f64 _ _ _ _ _ _ ha
    obtain ⟨A, B, c, hpin⟩ := pin_form (y + ax) ((-x) + ay)
    have hf := fun w => from_FI u v (y + ax) ((-x) + ay) w (by omega) (by omega)
    rw [hpin] at hf
    have HF := Lib.hid hf
    have HP := Lib.hid hpin
    clear ha hf hpin
    go_enter Try.func35, Try.ntmps35
    go_wp2
    refine wp_region_bw (w.heap.size + 3) _ (Below.refl _ _) (by kernel_rfl) (by kernel_rfl) ?_
    repeat (go_big_quiet_step ((go_at_call 30; refine Calls.bw_of (by simp <;> omega) (to_any _ _ _))))
    refine wpQuiet_nil ?_
    intro g
    go_wp2
    refine wp_loop_rounds 4 ?_
    rw [rounds_succ]
    go_wp2
    rw [rounds_succ]
    go_wp2
    rw [rounds_succ]
    go_wp2
    rw [rounds_succ]
    go_wp2_with (first | (go_at_call 30; refine (Calls.bw_of (by simp <;> omega) (to_any _ _ _)).mono ?_; rintro e w' ⟨rfl, g2, rfl⟩) | (go_at_call 33; refine (Calls.bw_of (by simp <;> omega) (HF.out _)).mono ?_; rintro e w' ⟨rfl, g3, rfl⟩))
    refine bodyPost_ret (v := .tuple #[.agg #[.int .i16 A, .int .i16 B], .bool c]) (by simp [results, Try.results35, go_sem]) rfl (gives_of_eq HP.out.symm ?_)
    exact ((((((Below.refl _ w).alloc (Nat.le_refl _) _).alloc (by simp) _).alloc (by simp <;> omega) _).trans (g3.h.mono (by simp <;> omega))).setCell (p := ⟨w.heap.size + 1 + 1, 0, none⟩) (by simp <;> omega) _).setCell (p := ⟨w.heap.size + 1 + 1, 1, none⟩) (by simp <;> omega) _
  · obtain ⟨u, v, ha⟩ := cadd_FI z1 z2 false false x y ax ay (by omega) (by omega) (by omega) (by omega)
    rw [← fl_FI, ← fl_FI] at ha
    have hadd := fun w => run_complex_sum (P := Try.prog) w .add (.inl rfl) 39 .f64 _ _ _ _ _ _ ha
    obtain ⟨A, B, c, hpin⟩ := pin_form (x + ax) (y + ay)
    have hf := fun w => from_FI u v (x + ax) (y + ay) w (by omega) (by omega)
    rw [hpin] at hf
    have HF := Lib.hid hf
    have HP := Lib.hid hpin
    clear ha hf hpin
    go_enter Try.func35, Try.ntmps35
    go_wp2
    refine wp_region_bw (w.heap.size + 3) _ (Below.refl _ _) (by kernel_rfl) (by kernel_rfl) ?_
    repeat (go_big_quiet_step ((go_at_call 30; refine Calls.bw_of (by simp <;> omega) (to_any _ _ _))))
    refine wpQuiet_nil ?_
    intro g
    go_wp2
    refine wp_loop_rounds 1 ?_
    rw [rounds_succ]
    go_wp2_with (first | (go_at_call 30; refine (Calls.bw_of (by simp <;> omega) (to_any _ _ _)).mono ?_; rintro e w' ⟨rfl, g2, rfl⟩) | (go_at_call 33; refine (Calls.bw_of (by simp <;> omega) (HF.out _)).mono ?_; rintro e w' ⟨rfl, g3, rfl⟩))
    refine bodyPost_ret (v := .tuple #[.agg #[.int .i16 A, .int .i16 B], .bool c]) (by simp [results, Try.results35, go_sem]) rfl (gives_of_eq HP.out.symm ?_)
    exact ((((((Below.refl _ w).alloc (Nat.le_refl _) _).alloc (by simp) _).alloc (by simp <;> omega) _).trans (g3.h.mono (by simp <;> omega))).setCell (p := ⟨w.heap.size + 1 + 1, 0, none⟩) (by simp <;> omega) _).setCell (p := ⟨w.heap.size + 1 + 1, 1, none⟩) (by simp <;> omega) _
  · obtain ⟨u, v, ha⟩ := cadd_FI z3 z4 false false (-y) x ax ay (by omega) (by omega) (by omega) (by omega)
    rw [← fl_FI, ← fl_FI] at ha
    have hadd := fun w => run_complex_sum (P := Try.prog) w .add (.inl rfl) 39 .f64 _ _ _ _ _ _ ha
    obtain ⟨A, B, c, hpin⟩ := pin_form ((-y) + ax) (x + ay)
    have hf := fun w => from_FI u v ((-y) + ax) (x + ay) w (by omega) (by omega)
    rw [hpin] at hf
    have HF := Lib.hid hf
    have HP := Lib.hid hpin
    clear ha hf hpin
    go_enter Try.func35, Try.ntmps35
    go_wp2
    refine wp_region_bw (w.heap.size + 3) _ (Below.refl _ _) (by kernel_rfl) (by kernel_rfl) ?_
    repeat (go_big_quiet_step ((go_at_call 30; refine Calls.bw_of (by simp <;> omega) (to_any _ _ _))))
    refine wpQuiet_nil ?_
    intro g
    go_wp2
    refine wp_loop_rounds 2 ?_
    rw [rounds_succ]
    go_wp2
    rw [rounds_succ]
    go_wp2_with (first | (go_at_call 30; refine (Calls.bw_of (by simp <;> omega) (to_any _ _ _)).mono ?_; rintro e w' ⟨rfl, g2, rfl⟩) | (go_at_call 33; refine (Calls.bw_of (by simp <;> omega) (HF.out _)).mono ?_; rintro e w' ⟨rfl, g3, rfl⟩))
    refine bodyPost_ret (v := .tuple #[.agg #[.int .i16 A, .int .i16 B], .bool c]) (by simp [results, Try.results35, go_sem]) rfl (gives_of_eq HP.out.symm ?_)
    exact ((((((Below.refl _ w).alloc (Nat.le_refl _) _).alloc (by simp) _).alloc (by simp <;> omega) _).trans (g3.h.mono (by simp <;> omega))).setCell (p := ⟨w.heap.size + 1 + 1, 0, none⟩) (by simp <;> omega) _).setCell (p := ⟨w.heap.size + 1 + 1, 1, none⟩) (by simp <;> omega) _
  · obtain ⟨u, v, ha⟩ := cadd_FI z5 z6 false false (-x) (-y) ax ay (by omega) (by omega) (by omega) (by omega)
    rw [← fl_FI, ← fl_FI] at ha
    have hadd := fun w => run_complex_sum (P := Try.prog) w .add (.inl rfl) 39 .f64 _ _ _ _ _ _ ha
    obtain ⟨A, B, c, hpin⟩ := pin_form ((-x) + ax) ((-y) + ay)
    have hf := fun w => from_FI u v ((-x) + ax) ((-y) + ay) w (by omega) (by omega)
    rw [hpin] at hf
    have HF := Lib.hid hf
    have HP := Lib.hid hpin
    clear ha hf hpin
    go_enter Try.func35, Try.ntmps35
    go_wp2
    refine wp_region_bw (w.heap.size + 3) _ (Below.refl _ _) (by kernel_rfl) (by kernel_rfl) ?_
    repeat (go_big_quiet_step ((go_at_call 30; refine Calls.bw_of (by simp <;> omega) (to_any _ _ _))))
    refine wpQuiet_nil ?_
    intro g
    go_wp2
    refine wp_loop_rounds 3 ?_
    rw [rounds_succ]
    go_wp2
    rw [rounds_succ]
    go_wp2
    rw [rounds_succ]
    go_wp2_with (first | (go_at_call 30; refine (Calls.bw_of (by simp <;> omega) (to_any _ _ _)).mono ?_; rintro e w' ⟨rfl, g2, rfl⟩) | (go_at_call 33; refine (Calls.bw_of (by simp <;> omega) (HF.out _)).mono ?_; rintro e w' ⟨rfl, g3, rfl⟩))
    refine bodyPost_ret (v := .tuple #[.agg #[.int .i16 A, .int .i16 B], .bool c]) (by simp [results, Try.results35, go_sem]) rfl (gives_of_eq HP.out.symm ?_)
    exact ((((((Below.refl _ w).alloc (Nat.le_refl _) _).alloc (by simp) _).alloc (by simp <;> omega) _).trans (g3.h.mono (by simp <;> omega))).setCell (p := ⟨w.heap.size + 1 + 1, 0, none⟩) (by simp <;> omega) _).setCell (p := ⟨w.heap.size + 1 + 1, 1, none⟩) (by simp <;> omega) _
  · obtain ⟨u, v, ha⟩ := cadd_FI z7 z8 false false y (-x) ax ay (by omega) (by omega) (by omega) (by omega)
    rw [← fl_FI, ← fl_FI] at ha
    have hadd := fun w => run_complex_sum (P := Try.prog) w .add (.inl rfl) 39 .f64 _ _ _ _ _ _ ha
    obtain ⟨A, B, c, hpin⟩ := pin_form (y + ax) ((-x) + ay)
    have hf := fun w => from_FI u v (y + ax) ((-x) + ay) w (by omega) (by omega)
    rw [hpin] at hf
    have HF := Lib.hid hf
    have HP := Lib.hid hpin
    clear ha hf hpin
    go_enter Try.func35, Try.ntmps35
    go_wp2
    refine wp_region_bw (w.heap.size + 3) _ (Below.refl _ _) (by kernel_rfl) (by kernel_rfl) ?_
    repeat (go_big_quiet_step ((go_at_call 30; refine Calls.bw_of (by simp <;> omega) (to_any _ _ _))))
    refine wpQuiet_nil ?_
    intro g
    go_wp2
    refine wp_loop_rounds 4 ?_
    rw [rounds_succ]
    go_wp2
    rw [rounds_succ]
    go_wp2
    rw [rounds_succ]
    go_wp2
    rw [rounds_succ]
    go_wp2_with (first | (go_at_call 30; refine (Calls.bw_of (by simp <;> omega) (to_any _ _ _)).mono ?_; rintro e w' ⟨rfl, g2, rfl⟩) | (go_at_call 33; refine (Calls.bw_of (by simp <;> omega) (HF.out _)).mono ?_; rintro e w' ⟨rfl, g3, rfl⟩))
    refine bodyPost_ret (v := .tuple #[.agg #[.int .i16 A, .int .i16 B], .bool c]) (by simp [results, Try.results35, go_sem]) rfl (gives_of_eq HP.out.symm ?_)
    exact ((((((Below.refl _ w).alloc (Nat.le_refl _) _).alloc (by simp) _).alloc (by simp <;> omega) _).trans (g3.h.mono (by simp <;> omega))).setCell (p := ⟨w.heap.size + 1 + 1, 0, none⟩) (by simp <;> omega) _).setCell (p := ⟨w.heap.size + 1 + 1, 1, none⟩) (by simp <;> omega) _

theorem tmod4 (q : Int) : q.tmod 4 = -3 ∨ q.tmod 4 = -2 ∨ q.tmod 4 = -1 ∨ q.tmod 4 = 0 ∨ q.tmod 4 = 1 ∨ q.tmod 4 = 2 ∨ q.tmod 4 = 3 := by
  rcases Int.le_total 0 q with h | h
  · rw [Int.tmod_eq_emod_of_nonneg h]; omega
  · have e := Int.neg_tmod (-q) 4
    rw [Int.neg_neg, Int.tmod_eq_emod_of_nonneg (show 0 ≤ -q by omega)] at e
    rw [e]; omega

theorem turn_any (px py ax ay q : Int) (w : World) (h1 : -32768 ≤ px) (h2 : px ≤ 32767) (h3 : -32768 ≤ py) (h4 : py ≤ 32767) (h5 : -32768 ≤ ax) (h6 : ax ≤ 32767) (h7 : -32768 ≤ ay) (h8 : ay ≤ 32767) :
    Calls Try.prog 35 #[.agg #[.int .i16 px, .int .i16 py], .agg #[.int .i16 ax, .int .i16 ay], .int .i64 q] w (Gives (pin (rotX (qrt q) (px - ax) (py - ay) + ax) (rotY (qrt q) (px - ax) (py - ay) + ay)) w) :=
  turn_core px py ax ay q (q.tmod 4) (px - ax) (py - ay) w h1 h2 h3 h4 h5 h6 h7 h8 rfl rfl rfl (tmod4 q)
end Go.Proofs.Ytilimgjmiijkiaa
