/- Contracts of plane and of the reference, 11: winds of the reference. -/
import Derived.Test.YtilimgjmiijkiaaA10
namespace Go.Proofs.Ytilimgjmiijkiaa
open Go.RowKit Ieee
attribute [local go_sem] BW.cell BW.frozen

def rsecT (p q gx gy lx : Bool) : Int := if p then (if gx then 0 else 4) else if q then (if gy then 2 else 6) else if gx && gy then 1 else if lx && gy then 3 else if lx then 5 else 7

/-- an operation without an answer: a word that is none, and a draw -/
theorem run_sub_none (P : Program) (t : TypeId) (x y : Nat) (h : double.sub x y = none) (w : World) :
    (binOp .sub t (.float .f64 x) (.float .f64 y)).run P w = .ok (.float .f64 (Question.cut (.nanBits .f64 x y) (w.tape w.drawn (.nanBits .f64 x y)))) w.drew := by
  have h' : FloatKind.f64.format.sub x y = none := h
  have e : binOp .sub t (.float .f64 x) (.float .f64 y) = Op.floatArith .sub .f64 x y := rfl
  rw [e]
  unfold Op.floatArith
  rw [h']
  rfl

theorem cut_nan (x y t : Nat) : (FloatKind.f64.format.order (Question.cut (.nanBits .f64 x y) t) 0 != some .eq) = true := by
  have e : Question.cut (.nanBits .f64 x y) t = double.word (t % 2 == 1) (INF + 1 + (t / 2) % (2 ^ 52 - 1)) := by
    show t % 2 * 2 ^ 63 + 0x7ff0000000000000 + 1 + t / 2 % (2 ^ 52 - 1) = _
    unfold INF
    rcases Nat.mod_two_eq_zero_or_one t with h | h
    · rw [h, show ((0 : Nat) == 1) = false from rfl, word_false]
    · rw [h]; rw [show ((1 : Nat) == 1) = true from rfl, word_true]; omega
  show (double.order _ 0 != some .eq) = true
  rw [e, order_nan_left _ _ _ (by omega) (by unfold INF; omega)]
  rfl

set_option maxHeartbeats 1000000 in
theorem rsector_n1 (X Y : Nat) (w : World) (nb : World → Nat) (hs : ∀ w, (binOp .sub 42 (.float .f64 X) (.float .f64 X)).run Try.prog w = .ok (.float .f64 (nb w)) w.drew) (hn : ∀ w, (FloatKind.f64.format.order (nb w) 0 != some .eq) = true) :
    Calls Try.prog 40 #[.float .f64 X, .float .f64 Y] w (Gives (.int .i64 (-1)) w) := by
  go_enter Try.func40, Try.ntmps40
  go_wp2
  go_ret
  exact gives_of_eq rfl (Below.refl _ w).drew

set_option maxHeartbeats 1000000 in
theorem rsector_n2 (X Y : Nat) (w : World) (nb : World → Nat) (hx : ∀ w, (binOp .sub 42 (.float .f64 X) (.float .f64 X)).run Try.prog w = .ok (.float .f64 0) w) (h0 : (FloatKind.f64.format.order 0 0 != some .eq) = false) (hs : ∀ w, (binOp .sub 42 (.float .f64 Y) (.float .f64 Y)).run Try.prog w = .ok (.float .f64 (nb w)) w.drew) (hn : ∀ w, (FloatKind.f64.format.order (nb w) 0 != some .eq) = true) :
    Calls Try.prog 40 #[.float .f64 X, .float .f64 Y] w (Gives (.int .i64 (-1)) w) := by
  go_enter Try.func40, Try.ntmps40
  go_wp2
  go_ret
  exact gives_of_eq rfl (Below.refl _ w).drew

set_option maxHeartbeats 1000000 in
theorem rsector_n3 (X Y : Nat) (w : World) (hx : ∀ w, (binOp .sub 42 (.float .f64 X) (.float .f64 X)).run Try.prog w = .ok (.float .f64 0) w) (h0 : (FloatKind.f64.format.order 0 0 != some .eq) = false) (hy : ∀ w, (binOp .sub 42 (.float .f64 Y) (.float .f64 Y)).run Try.prog w = .ok (.float .f64 0) w)
    (h1 : (FloatKind.f64.format.order X 0 == some .eq) = true) (h2 : (FloatKind.f64.format.order Y 0 == some .eq) = true) :
    Calls Try.prog 40 #[.float .f64 X, .float .f64 Y] w (Gives (.int .i64 (-1)) w) := by
  go_enter Try.func40, Try.ntmps40
  go_wp2
  go_ret
  exact gives_of_eq rfl (Below.refl _ w)

set_option maxHeartbeats 4000000 in
theorem rsector_some (X Y a b a2 b2 : Nat) (p q gx gy lx ly zx zy : Bool) (w : World) (hx : ∀ w, (binOp .sub 42 (.float .f64 X) (.float .f64 X)).run Try.prog w = .ok (.float .f64 0) w) (h0 : (FloatKind.f64.format.order 0 0 != some .eq) = false) (hy : ∀ w, (binOp .sub 42 (.float .f64 Y) (.float .f64 Y)).run Try.prog w = .ok (.float .f64 0) w)
    (hzx : (FloatKind.f64.format.order X 0 == some .eq) = zx) (hzy : (FloatKind.f64.format.order Y 0 == some .eq) = zy) (hz : zx = false ∨ zy = false)
    (hlx : (FloatKind.f64.format.order X 0 == some .lt) = lx) (hly : (FloatKind.f64.format.order Y 0 == some .lt) = ly)
    (ha : (if lx then Op.negFloat .f64 X else X) = a) (hb : (if ly then Op.negFloat .f64 Y else Y) = b)
    (m1 : floatBits .mul .f64 4611686018427387904 a = some a2) (m2 : floatBits .mul .f64 4611686018427387904 b = some b2)
    (hp : (FloatKind.f64.format.order b2 a == some .lt || FloatKind.f64.format.order b2 a == some .eq) = p) (hq : (FloatKind.f64.format.order a2 b == some .lt || FloatKind.f64.format.order a2 b == some .eq) = q)
    (hgx : (FloatKind.f64.format.order X 0 == some .gt) = gx) (hgy : (FloatKind.f64.format.order Y 0 == some .gt) = gy) :
    Calls Try.prog 40 #[.float .f64 X, .float .f64 Y] w (Gives (.int .i64 (rsecT p q gx gy lx)) w) := by
  have hm1 := fun w => run_float_arith (P := Try.prog) w .mul 42 .f64 _ _ _ m1
  have hm2 := fun w => run_float_arith (P := Try.prog) w .mul 42 .f64 _ _ _ m2
  clear m1 m2
  have hneg : ∀ (b : Nat) (w : World), (Op.unary .neg (.float .f64 b)).run Try.prog w = .ok (.float .f64 (Op.negFloat .f64 b)) w := fun _ _ => rfl
  have HZ : (zx = false ∧ zy = false) ∨ (zx = false ∧ zy = true) ∨ (zx = true ∧ zy = false) := by cases zx <;> cases zy <;> simp_all
  clear hz
  rcases HZ with ⟨rfl, rfl⟩ | ⟨rfl, rfl⟩ | ⟨rfl, rfl⟩ <;> cases lx <;> cases ly <;> simp only [Bool.false_eq_true, if_false, if_true] at ha hb
  all_goals
    cases p <;> cases q <;> cases gx <;> cases gy
    all_goals
      try subst ha
      try subst hb
      go_enter Try.func40, Try.ntmps40
      go_wp2
      go_ret
      exact gives_of_eq rfl (Below.refl _ w)
end Go.Proofs.Ytilimgjmiijkiaa
