/- Contracts of plane and of the reference, 7: From. -/
import Derived.Test.YtilimgjmiijkiaaA6
import Derived.Lib.Hide
namespace Go.Proofs.Ytilimgjmiijkiaa
open Go.RowKit
attribute [local go_sem] BW.cell BW.frozen

/-- the point that two words are, and whether they are one -/
def frX (re im : Nat) : Int := if wh re && wh im then tr re else 0
def frY (re im : Nat) : Int := if wh re && wh im then tr im else 0

theorem wh_tr {b : Nat} (h : wh b = true) : whN b = tr b := by
  have e : inR b = true := by unfold wh at h; simp only [Bool.and_eq_true] at h; exact h.1
  unfold whN; rw [e]; rfl

set_option maxHeartbeats 400000 in
theorem rfrom_any (re im : Nat) (w : World) : Calls Try.prog 34 #[.float .f64 re, .float .f64 im] w (Gives (.tuple #[.agg #[.int .i16 (frX re im), .int .i16 (frY re im)], .bool (wh re && wh im)]) w) := by
  cases h1 : wh re
  · have e1 : frX re im = 0 := by unfold frX; rw [h1]; rfl
    have e2 : frY re im = 0 := by unfold frY; rw [h1]; rfl
    rw [e1, e2]
    clear e1 e2
    go_enter Try.func34, Try.ntmps34
    go_wp2_with (go_at_call 55; refine (whole_any _ _).mono ?_; rintro e w' ⟨rfl, rfl⟩)
    refine bodyPost_ret (v := .tuple #[.agg #[.int .i16 0, .int .i16 0], .bool false]) (by simp [results, Try.results34, go_sem]) rfl (gives_of ((Below.refl _ w).alloc (Nat.le_refl _) _))
  · cases h2 : wh im
    · have e1 : frX re im = 0 := by unfold frX; rw [h1, h2]; rfl
      have e2 : frY re im = 0 := by unfold frY; rw [h1, h2]; rfl
      rw [e1, e2]
      clear e1 e2
      go_enter Try.func34, Try.ntmps34
      go_wp2_with (go_at_call 55; refine (whole_any _ _).mono ?_; rintro e w' ⟨rfl, rfl⟩)
      refine bodyPost_ret (v := .tuple #[.agg #[.int .i16 0, .int .i16 0], .bool false]) (by simp [results, Try.results34, go_sem]) rfl (gives_of ((Below.refl _ w).alloc (Nat.le_refl _) _))
    · have e1 : frX re im = whN re := by rw [wh_tr h1]; unfold frX; rw [h1, h2]; rfl
      have e2 : frY re im = whN im := by rw [wh_tr h2]; unfold frY; rw [h1, h2]; rfl
      rw [e1, e2]
      clear e1 e2
      go_enter Try.func34, Try.ntmps34
      go_wp2_with (go_at_call 55; refine (whole_any _ _).mono ?_; rintro e w' ⟨rfl, rfl⟩)
      refine bodyPost_ret (v := .tuple #[.agg #[.int .i16 (whN re), .int .i16 (whN im)], .bool true]) (by simp [results, Try.results34, go_sem]) rfl (gives_of ((Below.refl _ w).alloc (Nat.le_refl _) _))

/-- how a word stands to the tests of From -/
inductive Kind (b : Nat) : Prop where
  | low : c1 b = false → wh b = false → Kind b
  | high : c1 b = true → c2 b = false → wh b = false → Kind b
  | part : c1 b = true → c2 b = true → inR b = true → (FloatKind.f64.format.order b (truncW b) != some .eq) = true → wh b = false → Kind b
  | whole : c1 b = true → c2 b = true → inR b = true → (FloatKind.f64.format.order b (truncW b) != some .eq) = false → wh b = true → floatToIntVal .f64 b .i16 = some (tr b) → Kind b

theorem kind (b : Nat) : Kind b := by
  cases h1 : c1 b
  · exact .low h1 (by unfold wh; rw [inR_c, h1]; rfl)
  · cases h2 : c2 b
    · exact .high h1 h2 (by unfold wh; rw [inR_c, h1, h2]; rfl)
    · have e : inR b = true := by rw [inR_c, h1, h2]; rfl
      have h := wh_spec b e
      obtain ⟨s1, s2, s3, s4⟩ := inR_spec b e
      have e3 : floatToIntVal .f64 b .i16 = some (tr b) := by
        unfold floatToIntVal
        have : (FloatKind.f64.decode b).toInt .zero = some (tr b) := s3
        rw [this]
        simp only []
        rw [if_pos ⟨s1, s2⟩]
      cases h3 : wh b
      · rw [h3] at h; exact .part h1 h2 e h h3
      · rw [h3] at h; exact .whole h1 h2 e h h3 e3

/-- a round that ends in no point -/
def NotWhole (b : Nat) : Prop := c1 b = false ∨ (c1 b = true ∧ c2 b = false) ∨ (c1 b = true ∧ c2 b = true ∧ inR b = true ∧ (FloatKind.f64.format.order b (truncW b) != some .eq) = true)

set_option maxHeartbeats 1000000 in
theorem from_first (re im : Nat) (w : World) (h1 : NotWhole re) (h2 : wh re = false) : Calls Try.prog 33 #[.complex .f64 re im] w (Gives (.tuple #[.agg #[.int .i16 (frX re im), .int .i16 (frY re im)], .bool (wh re && wh im)]) w) := by
  have e1 : frX re im = 0 := by unfold frX; rw [h2]; rfl
  have e2 : frY re im = 0 := by unfold frY; rw [h2]; rfl
  rw [e1, e2, h2]
  clear e1 e2 h2
  have i0 : ∀ w : World, (Instr.index 71 (.agg #[.float .f64 re, .float .f64 im]) (.int .i64 0)).run Try.prog w = .ok (.float .f64 re) w := fun _ => by kernel_rfl
  have i1 : ∀ w : World, (Instr.index 71 (.agg #[.float .f64 re, .float .f64 im]) (.int .i64 1)).run Try.prog w = .ok (.float .f64 im) w := fun _ => by kernel_rfl
  rcases h1 with h1 | ⟨h1, h2⟩ | ⟨h1, h2, h3, h4⟩
  all_goals
    unfold c1 at h1
    try unfold c2 at h2
    try have ht := fun w => trunc_any re w h3
    try clear h3
    try have HT := Lib.hid ht
    try clear ht
    go_enter Try.func33, Try.ntmps33
    go_wp2
    refine wp_loop_rounds 1 ?_
    rw [rounds_succ]
    go_wp2_with (go_at_call 54; refine (HT.out _).mono ?_; rintro e w' ⟨rfl, rfl⟩)
    refine bodyPost_ret (v := .tuple #[.agg #[.int .i16 0, .int .i16 0], .bool false]) (by simp [results, Try.results33, go_sem]) rfl (gives_of ((Below.refl _ w).alloc (Nat.le_refl _) _))

set_option maxHeartbeats 2000000 in
theorem from_second (re im : Nat) (w : World) (r1 : c1 re = true) (r2 : c2 re = true) (r3 : inR re = true) (r4 : (FloatKind.f64.format.order re (truncW re) != some .eq) = false) (r5 : wh re = true) (h1 : NotWhole im) (h2 : wh im = false) : Calls Try.prog 33 #[.complex .f64 re im] w (Gives (.tuple #[.agg #[.int .i16 (frX re im), .int .i16 (frY re im)], .bool (wh re && wh im)]) w) := by
  have e1 : frX re im = 0 := by unfold frX; rw [h2, r5]; rfl
  have e2 : frY re im = 0 := by unfold frY; rw [h2, r5]; rfl
  rw [e1, e2, h2, r5]
  clear e1 e2 h2 r5
  have i0 : ∀ w : World, (Instr.index 71 (.agg #[.float .f64 re, .float .f64 im]) (.int .i64 0)).run Try.prog w = .ok (.float .f64 re) w := fun _ => by kernel_rfl
  have i1 : ∀ w : World, (Instr.index 71 (.agg #[.float .f64 re, .float .f64 im]) (.int .i64 1)).run Try.prog w = .ok (.float .f64 im) w := fun _ => by kernel_rfl
  unfold c1 at r1
  unfold c2 at r2
  have HR := Lib.hid (fun w => trunc_any re w r3)
  clear r3
  rcases h1 with h1 | ⟨h1, h2⟩ | ⟨h1, h2, h3, h4⟩
  all_goals
    unfold c1 at h1
    try unfold c2 at h2
    try have ht := fun w => trunc_any im w h3
    try clear h3
    try have HT := Lib.hid ht
    try clear ht
    go_enter Try.func33, Try.ntmps33
    go_wp2
    refine wp_loop_rounds 2 ?_
    rw [rounds_succ]
    go_wp2_with (go_at_call 54; refine (HR.out _).mono ?_; rintro e w' ⟨rfl, rfl⟩)
    rw [rounds_succ]
    go_wp2_with (go_at_call 54; refine (HT.out _).mono ?_; rintro e w' ⟨rfl, rfl⟩)
    refine bodyPost_ret (v := .tuple #[.agg #[.int .i16 0, .int .i16 0], .bool false]) (by simp [results, Try.results33, go_sem]) rfl (gives_of ((Below.refl _ w).alloc (Nat.le_refl _) _))

set_option maxHeartbeats 2000000 in
theorem from_both (re im : Nat) (w : World) (r1 : c1 re = true) (r2 : c2 re = true) (r3 : inR re = true) (r4 : (FloatKind.f64.format.order re (truncW re) != some .eq) = false) (r5 : wh re = true) (r6 : floatToIntVal .f64 re .i16 = some (tr re))
    (h1 : c1 im = true) (h2 : c2 im = true) (h3 : inR im = true) (h4 : (FloatKind.f64.format.order im (truncW im) != some .eq) = false) (h5 : wh im = true) (h6 : floatToIntVal .f64 im .i16 = some (tr im)) : Calls Try.prog 33 #[.complex .f64 re im] w (Gives (.tuple #[.agg #[.int .i16 (frX re im), .int .i16 (frY re im)], .bool (wh re && wh im)]) w) := by
  have e1 : frX re im = tr re := by unfold frX; rw [h5, r5]; rfl
  have e2 : frY re im = tr im := by unfold frY; rw [h5, r5]; rfl
  rw [e1, e2, h5, r5]
  have hcv := fun w => run_convert_float_int (P := Try.prog) w 42 22 .f64 .i16 re (tr re) (by kernel_rfl) Try.underlying22 r6
  have hcw := fun w => run_convert_float_int (P := Try.prog) w 42 22 .f64 .i16 im (tr im) (by kernel_rfl) Try.underlying22 h6
  clear e1 e2 h5 r5 h6 r6
  have i0 : ∀ w : World, (Instr.index 71 (.agg #[.float .f64 re, .float .f64 im]) (.int .i64 0)).run Try.prog w = .ok (.float .f64 re) w := fun _ => by kernel_rfl
  have i1 : ∀ w : World, (Instr.index 71 (.agg #[.float .f64 re, .float .f64 im]) (.int .i64 1)).run Try.prog w = .ok (.float .f64 im) w := fun _ => by kernel_rfl
  unfold c1 at r1 h1
  unfold c2 at r2 h2
  have HR := Lib.hid (fun w => trunc_any re w r3)
  have HT := Lib.hid (fun w => trunc_any im w h3)
  clear r3 h3
  go_enter Try.func33, Try.ntmps33
  go_wp2
  refine wp_loop_rounds 3 ?_
  rw [rounds_succ]
  go_wp2_with (go_at_call 54; refine (HR.out _).mono ?_; rintro e w' ⟨rfl, rfl⟩)
  rw [rounds_succ]
  go_wp2_with (go_at_call 54; refine (HT.out _).mono ?_; rintro e w' ⟨rfl, rfl⟩)
  rw [rounds_succ]
  go_wp2
  refine bodyPost_ret (v := .tuple #[.agg #[.int .i16 (tr re), .int .i16 (tr im)], .bool true]) (by simp [results, Try.results33, go_sem]) rfl (gives_of ((Below.refl _ w).alloc (Nat.le_refl _) _))

theorem from_any (re im : Nat) (w : World) : Calls Try.prog 33 #[.complex .f64 re im] w (Gives (.tuple #[.agg #[.int .i16 (frX re im), .int .i16 (frY re im)], .bool (wh re && wh im)]) w) := by
  have first : ∀ h : NotWhole re, wh re = false → _ := fun h h' => from_first re im w h h'
  rcases kind re with ⟨a, b⟩ | ⟨a, b, c⟩ | ⟨a, b, c, d, e⟩ | ⟨a, b, c, d, e, f⟩
  · exact first (.inl a) b
  · exact first (.inr (.inl ⟨a, b⟩)) c
  · exact first (.inr (.inr ⟨a, b, c, d⟩)) e
  · rcases kind im with ⟨a', b'⟩ | ⟨a', b', c'⟩ | ⟨a', b', c', d', e'⟩ | ⟨a', b', c', d', e', f'⟩
    · exact from_second re im w a b c d e (.inl a') b'
    · exact from_second re im w a b c d e (.inr (.inl ⟨a', b'⟩)) c'
    · exact from_second re im w a b c d e (.inr (.inr ⟨a', b', c', d'⟩)) e'
    · exact from_both re im w a b c d e f a' b' c' d' e' f'
end Go.Proofs.Ytilimgjmiijkiaa
