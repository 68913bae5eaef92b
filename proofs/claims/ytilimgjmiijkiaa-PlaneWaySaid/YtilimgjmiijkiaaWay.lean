/- PlaneWay: behind n steps one is n from where one began, and as much nearer; steps go on; no step goes aside. No conditions. -/
import Derived.Test.YtilimgjmiijkiaaL
import Derived.Test.YtilimgjmiijkiaaA17
import Derived.Test.YtilimgjmiijkiaaRows
namespace Go.Proofs.Ytilimgjmiijkiaa
open Go.ChangeShapes Go.WideShapes Go.ChangeAt Go.RowKit Go.Joins Ieee
attribute [local go_sem] BW.cell BW.frozen
set_option linter.unusedVariables false

/-- a way on a line: how far, and what is left -/
theorem tow_spec (x t n : Int) (hn : 0 ≤ n) : apart x (tow x t n) = (if apart x t < n then apart x t else n) ∧ apart (tow x t n) t = apart x t - (if apart x t < n then apart x t else n) ∧
    ((x ≤ tow x t n ∧ tow x t n ≤ t) ∨ (t ≤ tow x t n ∧ tow x t n ≤ x)) ∧ (apart x t ≤ n → tow x t n = t) := by
  unfold tow apart
  refine ⟨?_, ?_, ?_, ?_⟩ <;> (repeat' split) <;> omega

theorem tow_tow (x t m n : Int) (hm : 0 ≤ m) (hn : 0 ≤ n) : tow (tow x t m) t n = tow x t (m + n) := by
  obtain ⟨-, b, c, d⟩ := tow_spec x t m hm
  have e1 : tow x t (m + n) = (if t < x then x - (if apart x t < m + n then apart x t else m + n) else x + (if apart x t < m + n then apart x t else m + n)) := rfl
  have e2 : tow (tow x t m) t n = (if t < tow x t m then tow x t m - (if apart (tow x t m) t < n then apart (tow x t m) t else n) else tow x t m + (if apart (tow x t m) t < n then apart (tow x t m) t else n)) := rfl
  have e3 : tow x t m = (if t < x then x - (if apart x t < m then apart x t else m) else x + (if apart x t < m then apart x t else m)) := rfl
  rw [e1, e2, b]
  generalize tow x t m = p at *
  have ha : apart x t = (if x < t then t - x else x - t) := by unfold apart; split <;> split <;> omega
  rw [ha] at *
  by_cases h1 : t < x
  · rw [if_pos h1] at e3 ⊢
    rw [if_neg (show ¬ x < t by omega)] at *
    by_cases h2 : x - t < m
    · rw [if_pos h2] at *; rw [if_pos (show x - t < m + n by omega)]; (repeat' split) <;> omega
    · rw [if_neg h2] at *; (repeat' split) <;> omega
  · rw [if_neg h1] at e3 ⊢
    by_cases h3 : x < t
    · rw [if_pos h3] at *
      by_cases h2 : t - x < m
      · rw [if_pos h2] at *; rw [if_pos (show t - x < m + n by omega)]; (repeat' split) <;> omega
      · rw [if_neg h2] at *; (repeat' split) <;> omega
    · rw [if_neg h3] at *
      by_cases h2 : x - t < m
      · rw [if_pos h2] at *; rw [if_pos (show x - t < m + n by omega)]; (repeat' split) <;> omega
      · rw [if_neg h2] at *; (repeat' split) <;> omega

/-- a step, the second co-ordinate with what the first leaves -/
theorem step_tow (fx fy tx ty n : Int) (hn : 0 ≤ n) : stepX fx fy tx ty n = tow fx tx n ∧ stepY fx fy tx ty n = tow fy ty (n - (if apart fx tx < n then apart fx tx else n)) := by
  have p1 : 0 ≤ apart fx tx := by unfold apart; split <;> omega
  have p2 : 0 ≤ apart fy ty := by unfold apart; split <;> omega
  have z : ∀ x t : Int, tow x t 0 = x := fun x t => by
    have : 0 ≤ apart x t := by unfold apart; split <;> omega
    unfold tow; (repeat' split) <;> omega
  unfold stepX stepY
  by_cases h0 : n ≤ 0
  · have : n = 0 := by omega
    subst this
    rw [if_pos h0, if_pos h0, z, if_neg (by omega), Int.sub_self, z]
    exact ⟨rfl, rfl⟩
  · rw [if_neg h0, if_neg h0]
    by_cases h1 : apart fx tx + apart fy ty ≤ n
    · rw [if_pos h1, if_pos h1, (tow_spec fx tx n hn).2.2.2 (by omega)]
      refine ⟨rfl, ?_⟩
      by_cases h2 : apart fx tx < n
      · rw [if_pos h2, (tow_spec fy ty _ (by omega)).2.2.2 (by omega)]
      · rw [if_neg h2, (tow_spec fy ty _ (by omega)).2.2.2 (by omega)]
    · rw [if_neg h1, if_neg h1]
      exact ⟨rfl, rfl⟩

/-- what steps do to the distances -/
theorem way_facts (fx fy tx ty M N PX PY : Int) (hM : 0 ≤ M) (hN : 0 ≤ N) (hX : stepX fx fy tx ty M = PX) (hY : stepY fx fy tx ty M = PY) :
    apart fx PX + apart fy PY = (if apart fx tx + apart fy ty < M then apart fx tx + apart fy ty else M) ∧
    apart PX tx + apart PY ty = apart fx tx + apart fy ty - (if apart fx tx + apart fy ty < M then apart fx tx + apart fy ty else M) ∧
    stepX PX PY tx ty N = stepX fx fy tx ty (M + N) ∧ stepY PX PY tx ty N = stepY fx fy tx ty (M + N) ∧
    ((fx ≤ PX ∧ PX ≤ tx) ∨ (tx ≤ PX ∧ PX ≤ fx)) ∧ ((fy ≤ PY ∧ PY ≤ ty) ∨ (ty ≤ PY ∧ PY ≤ fy)) := by
  obtain ⟨e1, e2⟩ := step_tow fx fy tx ty M hM
  obtain ⟨e3, e4⟩ := step_tow fx fy tx ty (M + N) (by omega)
  obtain ⟨e5, e6⟩ := step_tow PX PY tx ty N hN
  have p1 : 0 ≤ apart fx tx := by unfold apart; split <;> omega
  have p2 : 0 ≤ apart fy ty := by unfold apart; split <;> omega
  rw [hX] at e1
  rw [hY] at e2
  have hrest : 0 ≤ M - (if apart fx tx < M then apart fx tx else M) := by split <;> omega
  obtain ⟨a1, a2, a3, -⟩ := tow_spec fx tx M hM
  obtain ⟨b1, b2, b3, -⟩ := tow_spec fy ty _ hrest
  rw [← e1] at a1 a2 a3
  rw [← e2] at b1 b2 b3
  rw [a1, b1, a2, b2, e3, e4, e5, e6]
  refine ⟨?_, ?_, ?_, ?_, a3, b3⟩
  · (repeat' split) <;> omega
  · (repeat' split) <;> omega
  · rw [e1, tow_tow _ _ _ _ hM hN]
  · have hr2 : 0 ≤ N - (if apart PX tx < N then apart PX tx else N) := by split <;> omega
    rw [e2, tow_tow _ _ _ _ hrest hr2, a2]
    congr 1
    (repeat' split) <;> omega

theorem one_step (fx fy tx ty SX SY : Int) (hX : stepX fx fy tx ty 1 = SX) (hY : stepY fx fy tx ty 1 = SY) :
    apart fx SX + apart fy SY = (if apart fx tx + apart fy ty < 1 then apart fx tx + apart fy ty else 1) := (way_facts fx fy tx ty 1 0 SX SY (by omega) (by omega) hX hY).1

theorem way_law (fx fy tx ty m n : Int) (w : World) (h1 : -32768 ≤ fx) (h2 : fx ≤ 32767) (h3 : -32768 ≤ fy) (h4 : fy ≤ 32767) (h5 : -32768 ≤ tx) (h6 : tx ≤ 32767) (h7 : -32768 ≤ ty) (h8 : ty ≤ 32767) :
    Calls Try.prog 12 #[.agg #[.int .i16 fx, .int .i16 fy], .agg #[.int .i16 tx, .int .i16 ty], .int .i64 m, .int .i64 n] w (Gives (.bool true) w) := by
  have bnd : ∀ a b : Int, -32768 ≤ a → a ≤ 32767 → -32768 ≤ b → b ≤ 32767 → 0 ≤ apart a b ∧ apart a b ≤ 65535 := fun a b _ _ _ _ => by unfold apart; split <;> omega
  obtain ⟨u1, u2⟩ := bnd fx tx h1 h2 h5 h6
  obtain ⟨v1, v2⟩ := bnd fy ty h3 h4 h7 h8
  have k0 := fun w => dist_any fx fy tx ty w h1 h2 h3 h4 h5 h6 h7 h8
  generalize hD : apart fx tx + apart fy ty = D at *
  have d1 : 0 ≤ D := by omega
  have d2 : D ≤ 131070 := by omega
  have rem : ∀ a : Int, -131073 < a.tmod (D + 3) ∧ a.tmod (D + 3) < 131073 := fun a => by
    have h := Int.natAbs_tmod a (D + 3)
    have h2 := Nat.mod_lt a.natAbs (show 0 < (D + 3).natAbs by omega)
    omega
  obtain ⟨mb1, mb2⟩ := rem m
  obtain ⟨nb1, nb2⟩ := rem n
  obtain ⟨M, hM⟩ : ∃ M : Int, M = (if m.tmod (D + 3) < 0 then -(m.tmod (D + 3)) else m.tmod (D + 3)) := ⟨_, rfl⟩
  obtain ⟨N, hN⟩ : ∃ N : Int, N = (if n.tmod (D + 3) < 0 then -(n.tmod (D + 3)) else n.tmod (D + 3)) := ⟨_, rfl⟩
  have hM0 : 0 ≤ M := by rw [hM]; split <;> omega
  have hN0 : 0 ≤ N := by rw [hN]; split <;> omega
  obtain ⟨PX, hPX⟩ : ∃ PX, stepX fx fy tx ty M = PX := ⟨_, rfl⟩
  obtain ⟨PY, hPY⟩ : ∃ PY, stepY fx fy tx ty M = PY := ⟨_, rfl⟩
  obtain ⟨f1, f2, f3, f4, f5, f6⟩ := way_facts fx fy tx ty M N PX PY hM0 hN0 hPX hPY
  have p1 : -32768 ≤ PX := by omega
  have p2 : PX ≤ 32767 := by omega
  have p3 : -32768 ≤ PY := by omega
  have p4 : PY ≤ 32767 := by omega
  have k1 := fun w => step_any fx fy tx ty M w h1 h2 h3 h4 h5 h6 h7 h8
  rw [hPX, hPY] at k1
  obtain ⟨QX, hQX⟩ : ∃ QX, stepX fx fy tx ty (M + N) = QX := ⟨_, rfl⟩
  obtain ⟨QY, hQY⟩ : ∃ QY, stepY fx fy tx ty (M + N) = QY := ⟨_, rfl⟩
  have k2 := fun w => step_any PX PY tx ty N w p1 p2 p3 p4 h5 h6 h7 h8
  rw [f3, f4, hQX, hQY] at k2
  have k3 := fun w => step_any fx fy tx ty (M + N) w h1 h2 h3 h4 h5 h6 h7 h8
  rw [hQX, hQY] at k3
  obtain ⟨SX, hSX⟩ : ∃ SX, stepX PX PY tx ty 1 = SX := ⟨_, rfl⟩
  obtain ⟨SY, hSY⟩ : ∃ SY, stepY PX PY tx ty 1 = SY := ⟨_, rfl⟩
  have f7 := one_step PX PY tx ty SX SY hSX hSY
  obtain ⟨-, -, -, -, g5, g6⟩ := way_facts PX PY tx ty 1 0 SX SY (by omega) (by omega) hSX hSY
  have k4 := fun w => step_any PX PY tx ty 1 w p1 p2 p3 p4 h5 h6 h7 h8
  rw [hSX, hSY] at k4
  have k5 := fun w => dist_any fx fy PX PY w h1 h2 h3 h4 p1 p2 p3 p4
  have k6 := fun w => dist_any PX PY tx ty w p1 p2 p3 p4 h5 h6 h7 h8
  have k7 := fun w => dist_any PX PY SX SY w p1 p2 p3 p4 (by omega) (by omega) (by omega) (by omega)
  rw [f7, f2] at k7
  rw [f2] at k6
  rw [f1] at k5
  rw [hD] at k5 k6 k7
  clear f1 f2 f3 f4 f5 f6 f7 g5 g6 hPX hPY hQX hQY hSX hSY
  have A3 : ∀ k e, k = (if D < M then D else M) → e = (if D - k < 1 then D - k else 1) → ∀ w a b c d v, (a = fx ∧ b = fy ∧ c = PX ∧ d = PY ∧ v = k) ∨ (a = PX ∧ b = PY ∧ c = tx ∧ d = ty ∧ v = D - k) ∨ (a = PX ∧ b = PY ∧ c = SX ∧ d = SY ∧ v = e) →
      Calls Try.prog 21 #[.agg #[.int .i16 a, .int .i16 b], .agg #[.int .i16 c, .int .i16 d]] w (Gives (.int .i64 v) w) := fun k e hk he w a b c d v h => by
    subst hk; subst he
    rcases h with ⟨rfl, rfl, rfl, rfl, rfl⟩ | ⟨rfl, rfl, rfl, rfl, rfl⟩ | ⟨rfl, rfl, rfl, rfl, rfl⟩
    · exact k5 w
    · exact k6 w
    · exact k7 w
  have A4 : ∀ w a b c d v, (a = fx ∧ b = fy ∧ v = M + N ∧ c = QX ∧ d = QY) ∨ (a = PX ∧ b = PY ∧ v = 1 ∧ c = SX ∧ d = SY) →
      Calls Try.prog 24 #[.agg #[.int .i16 a, .int .i16 b], .agg #[.int .i16 tx, .int .i16 ty], .int .i64 v] w (Gives (.agg #[.int .i16 c, .int .i16 d]) w) := fun w a b c d v h => by
    rcases h with ⟨rfl, rfl, rfl, rfl, rfl⟩ | ⟨rfl, rfl, rfl, rfl, rfl⟩
    · exact k3 w
    · exact k4 w
  clear k3 k4 k5 k6 k7
  by_cases c1 : m.tmod (D + 3) < 0
  · rw [if_pos c1] at hM
    by_cases c2 : n.tmod (D + 3) < 0
    · rw [if_pos c2] at hN
      by_cases c3 : D < M
      · exact way_110 fx fy tx ty m n D M N D (D - D) PX PY QX QY SX SY _ _ w d1 d2 (by omega) rfl rfl mb1 mb2 nb1 nb2 c1 hM.symm c2 hN.symm c3 rfl rfl (by omega) (by omega) (by omega) k0 k1 k2 (A3 D (D - D) (by rw [if_pos c3]) (by rw [if_pos (by omega)])) A4
      · by_cases c4 : D - M < 1
        · exact way_111 fx fy tx ty m n D M N M (D - M) PX PY QX QY SX SY _ _ w d1 d2 (by omega) rfl rfl mb1 mb2 nb1 nb2 c1 hM.symm c2 hN.symm c3 rfl rfl c4 (by omega) (by omega) k0 k1 k2 (A3 M (D - M) (by rw [if_neg c3]) (by rw [if_pos c4])) A4
        · exact way_112 fx fy tx ty m n D M N M 1 PX PY QX QY SX SY _ _ w d1 d2 (by omega) rfl rfl mb1 mb2 nb1 nb2 c1 hM.symm c2 hN.symm c3 rfl rfl c4 (by omega) (by omega) k0 k1 k2 (A3 M 1 (by rw [if_neg c3]) (by rw [if_neg c4])) A4
    · rw [if_neg c2] at hN
      by_cases c3 : D < M
      · exact way_100 fx fy tx ty m n D M N D (D - D) PX PY QX QY SX SY _ _ w d1 d2 (by omega) rfl rfl mb1 mb2 nb1 nb2 c1 hM.symm c2 hN.symm c3 rfl rfl (by omega) (by omega) (by omega) k0 k1 k2 (A3 D (D - D) (by rw [if_pos c3]) (by rw [if_pos (by omega)])) A4
      · by_cases c4 : D - M < 1
        · exact way_101 fx fy tx ty m n D M N M (D - M) PX PY QX QY SX SY _ _ w d1 d2 (by omega) rfl rfl mb1 mb2 nb1 nb2 c1 hM.symm c2 hN.symm c3 rfl rfl c4 (by omega) (by omega) k0 k1 k2 (A3 M (D - M) (by rw [if_neg c3]) (by rw [if_pos c4])) A4
        · exact way_102 fx fy tx ty m n D M N M 1 PX PY QX QY SX SY _ _ w d1 d2 (by omega) rfl rfl mb1 mb2 nb1 nb2 c1 hM.symm c2 hN.symm c3 rfl rfl c4 (by omega) (by omega) k0 k1 k2 (A3 M 1 (by rw [if_neg c3]) (by rw [if_neg c4])) A4
  · rw [if_neg c1] at hM
    by_cases c2 : n.tmod (D + 3) < 0
    · rw [if_pos c2] at hN
      by_cases c3 : D < M
      · exact way_010 fx fy tx ty m n D M N D (D - D) PX PY QX QY SX SY _ _ w d1 d2 (by omega) rfl rfl mb1 mb2 nb1 nb2 c1 hM.symm c2 hN.symm c3 rfl rfl (by omega) (by omega) (by omega) k0 k1 k2 (A3 D (D - D) (by rw [if_pos c3]) (by rw [if_pos (by omega)])) A4
      · by_cases c4 : D - M < 1
        · exact way_011 fx fy tx ty m n D M N M (D - M) PX PY QX QY SX SY _ _ w d1 d2 (by omega) rfl rfl mb1 mb2 nb1 nb2 c1 hM.symm c2 hN.symm c3 rfl rfl c4 (by omega) (by omega) k0 k1 k2 (A3 M (D - M) (by rw [if_neg c3]) (by rw [if_pos c4])) A4
        · exact way_012 fx fy tx ty m n D M N M 1 PX PY QX QY SX SY _ _ w d1 d2 (by omega) rfl rfl mb1 mb2 nb1 nb2 c1 hM.symm c2 hN.symm c3 rfl rfl c4 (by omega) (by omega) k0 k1 k2 (A3 M 1 (by rw [if_neg c3]) (by rw [if_neg c4])) A4
    · rw [if_neg c2] at hN
      by_cases c3 : D < M
      · exact way_000 fx fy tx ty m n D M N D (D - D) PX PY QX QY SX SY _ _ w d1 d2 (by omega) rfl rfl mb1 mb2 nb1 nb2 c1 hM.symm c2 hN.symm c3 rfl rfl (by omega) (by omega) (by omega) k0 k1 k2 (A3 D (D - D) (by rw [if_pos c3]) (by rw [if_pos (by omega)])) A4
      · by_cases c4 : D - M < 1
        · exact way_001 fx fy tx ty m n D M N M (D - M) PX PY QX QY SX SY _ _ w d1 d2 (by omega) rfl rfl mb1 mb2 nb1 nb2 c1 hM.symm c2 hN.symm c3 rfl rfl c4 (by omega) (by omega) k0 k1 k2 (A3 M (D - M) (by rw [if_neg c3]) (by rw [if_pos c4])) A4
        · exact way_002 fx fy tx ty m n D M N M 1 PX PY QX QY SX SY _ _ w d1 d2 (by omega) rfl rfl mb1 mb2 nb1 nb2 c1 hM.symm c2 hN.symm c3 rfl rfl c4 (by omega) (by omega) k0 k1 k2 (A3 M 1 (by rw [if_neg c3]) (by rw [if_neg c4])) A4

set_option maxRecDepth 100000 in
theorem way_lifted (os : Os) (started : os.Started) (H : Type) (enc : TypeId × Value → H) :
    ReturnsInHanded {} Try.checked os 12 .any (Rows.planeWaySpec.pre6 enc Try.prog Try.f12 Rows.planeWayRow.domain false) (Rows.planeWaySpec.post enc Try.prog Try.f12 false true false false) := by
  refine returnsInHanded_of_change (C := Try.checked) Try.own started (by kernel_rfl) Try.func12
    (ChangeSpec.witness6 (enc := enc) (C := Try.checked) false ⟨#[], #[.agg #[.int .i16 0, .int .i16 0], .agg #[.int .i16 0, .int .i16 0], .int .i64 0, .int .i64 0], []⟩ 8 (by kernel_rfl) (by kernel_rfl) (by kernel_rfl) (by kernel_rfl)) ?_
  intro W base args ds gs before hval0 hW hcnd _
  have hval : ∀ (j : Nat) t v, Try.f12.params[j]? = some t → args[j]? = some v → Value.okWide Try.prog W .any base t v := hval0
  have hW' := hW
  obtain ⟨p, q, hA0, hV, rfl, hfz, hnd⟩ := hW
  have hA : DataW.TrodAll enc Try.prog W 0 (fun _ => true) true Try.f12.params.toList args.toList ds p := hA0
  rw [Try.params12] at hA hval
  obtain ⟨v0, v1, v2, v3, d0, d1, d2, d3, p0, p1, p2, p3, rfl, rfl, rfl, h0, h1, h2, h3⟩ := trodAll_four hA
  obtain ⟨rfl, rfl⟩ := trodVars_none hV
  obtain ⟨a0x, a0y, rfl, rfl, rfl, g00, g01, g02, g03⟩ := open_pt (hval 0 24 _ rfl rfl) h0
  obtain ⟨a1x, a1y, rfl, rfl, rfl, g10, g11, g12, g13⟩ := open_pt (hval 1 24 _ rfl rfl) h1
  obtain ⟨a2x, rfl, rfl, rfl, g20, g21⟩ := open_i (hval 2 3 _ rfl rfl) h2
  obtain ⟨a3x, rfl, rfl, rfl, g30, g31⟩ := open_i (hval 3 3 _ rfl rfl) h3
  refine (way_law _ _ _ _ _ _ W g00 g01 g02 g03 g10 g11 g12 g13).mono fun e W2 ⟨he, x, hx⟩ => ⟨_, he, ?_⟩
  exact law_post hW' rfl rfl rfl (by kernel_rfl) (hx ▸ x.h)

theorem way_holds : Rows.PlaneWaySaid :=
  OpenClaim.holds_of_wide 12 Try.f12 rfl rfl rfl rfl rfl rfl rfl ⟨rfl, rfl, rfl, rfl, rfl⟩ rfl rfl rfl rfl rfl (by kernel_rfl) Try.func12 (by kernel_rfl)
    (of_decide_eq_true (by kernel_rfl)) (by unfold Func.isWrapper; rw [if_neg (of_decide_eq_false (by kernel_rfl))]; exact ⟨rfl, rfl⟩)
    (fun os started H enc _ => way_lifted os started H enc)
end Go.Proofs.Ytilimgjmiijkiaa
