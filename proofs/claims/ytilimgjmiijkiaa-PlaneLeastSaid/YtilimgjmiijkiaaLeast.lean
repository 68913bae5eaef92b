/- PlaneLeast: what is near enough is inside the box, and each side that is no edge of the plane is just so far. No conditions. -/
import Derived.Test.YtilimgjmiijkiaaL
import Derived.Test.YtilimgjmiijkiaaA16
import Derived.Test.YtilimgjmiijkiaaRows
namespace Go.Proofs.Ytilimgjmiijkiaa
open Go.ChangeShapes Go.WideShapes Go.ChangeAt Go.RowKit Go.Joins Ieee
attribute [local go_sem] BW.cell BW.frozen
set_option linter.unusedVariables false

theorem apart_sub (a b : Int) : (a ≤ b → apart a b = b - a) ∧ (b ≤ a → apart a b = a - b) := by unfold apart; split <;> omega
theorem apart_self (a : Int) : apart a a = 0 := by unfold apart; split <;> omega
theorem apart_pos (a b : Int) : 0 ≤ apart a b := by unfold apart; split <;> omega

theorem rad_spec (r R : Int) (hR : (r < 0 ∧ R = 0) ∨ (0 ≤ r ∧ R = r)) : 0 ≤ rad r ∧ (rad r = R ∨ (rad r = 131070 ∧ 131070 < R)) ∧ rad r ≤ R := by
  unfold rad; split
  · omega
  · split <;> omega

theorem lo_spec (x r R : Int) (h1 : -32768 ≤ x) (h2 : x ≤ 32767) (hR : (r < 0 ∧ R = 0) ∨ (0 ≤ r ∧ R = r)) :
    -32768 ≤ cut (x - rad r) ∧ cut (x - rad r) ≤ x ∧ (cut (x - rad r) = -32768 ∨ x - cut (x - rad r) = R) ∧ (∀ u, -32768 ≤ u → apart x u ≤ r → cut (x - rad r) ≤ u) := by
  obtain ⟨a, b, c⟩ := rad_spec r R hR
  generalize rad r = ρ at *
  have e : (cut (x - ρ) = -32768 ∧ x - ρ ≤ -32768) ∨ (cut (x - ρ) = x - ρ ∧ -32768 ≤ x - ρ) := by unfold cut; split <;> (try split) <;> omega
  generalize cut (x - ρ) = A at *
  refine ⟨by omega, by omega, by omega, fun u h3 h4 => ?_⟩
  obtain ⟨p, q⟩ := apart_sub x u
  rcases Int.le_total x u with h | h
  · have := p h; omega
  · have := q h; omega

theorem hi_spec (x r R : Int) (h1 : -32768 ≤ x) (h2 : x ≤ 32767) (hR : (r < 0 ∧ R = 0) ∨ (0 ≤ r ∧ R = r)) :
    x ≤ cut (x + rad r) ∧ cut (x + rad r) ≤ 32767 ∧ (cut (x + rad r) = 32767 ∨ cut (x + rad r) - x = R) ∧ (∀ u, u ≤ 32767 → apart x u ≤ r → u ≤ cut (x + rad r)) := by
  obtain ⟨a, b, c⟩ := rad_spec r R hR
  generalize rad r = ρ at *
  have e : (cut (x + ρ) = 32767 ∧ 32767 ≤ x + ρ) ∨ (cut (x + ρ) = x + ρ ∧ x + ρ ≤ 32767) := by unfold cut; split <;> (try split) <;> omega
  generalize cut (x + ρ) = A at *
  refine ⟨by omega, by omega, by omega, fun u h3 h4 => ?_⟩
  obtain ⟨p, q⟩ := apart_sub x u
  rcases Int.le_total x u with h | h
  · have := p h; omega
  · have := q h; omega

theorem ins_of {x y a b c d : Int} (h1 : a ≤ x) (h2 : x ≤ c) (h3 : b ≤ y) (h4 : y ≤ d) : ins x y a b c d = true := by
  unfold ins; rw [decide_eq_true h1, decide_eq_true h2, decide_eq_true h3, decide_eq_true h4]; rfl

theorem edge_row (x y A lim R : Int) (h1 : -32768 ≤ x) (h2 : x ≤ 32767) (h3 : -32768 ≤ y) (h4 : y ≤ 32767) (a1 : -32768 ≤ A) (a2 : A ≤ 32767) (h : A = lim ∨ apart x A = R) :
    A = lim ∨ (¬ A = lim ∧ ∀ w, Calls Try.prog 21 #[.agg #[.int .i16 x, .int .i16 y], .agg #[.int .i16 A, .int .i16 y]] w (Gives (.int .i64 R) w)) := by
  by_cases hl : A = lim
  · exact .inl hl
  · refine .inr ⟨hl, fun w => ?_⟩
    have := dist_any x y A y w h1 h2 h3 h4 a1 a2 h3 h4
    rw [apart_self, h.resolve_left hl, Int.add_zero] at this
    exact this

theorem edge_col (x y A lim R : Int) (h1 : -32768 ≤ x) (h2 : x ≤ 32767) (h3 : -32768 ≤ y) (h4 : y ≤ 32767) (a1 : -32768 ≤ A) (a2 : A ≤ 32767) (h : A = lim ∨ apart y A = R) :
    A = lim ∨ (¬ A = lim ∧ ∀ w, Calls Try.prog 21 #[.agg #[.int .i16 x, .int .i16 y], .agg #[.int .i16 x, .int .i16 A]] w (Gives (.int .i64 R) w)) := by
  by_cases hl : A = lim
  · exact .inl hl
  · refine .inr ⟨hl, fun w => ?_⟩
    have := dist_any x y x A w h1 h2 h3 h4 h1 h2 a1 a2
    rw [apart_self, h.resolve_left hl, Int.zero_add] at this
    exact this

theorem least_law (x y r u v : Int) (w : World) (h1 : -32768 ≤ x) (h2 : x ≤ 32767) (h3 : -32768 ≤ y) (h4 : y ≤ 32767) (h5 : -32768 ≤ u) (h6 : u ≤ 32767) (h7 : -32768 ≤ v) (h8 : v ≤ 32767) :
    Calls Try.prog 18 #[.agg #[.int .i16 x, .int .i16 y], .int .i64 r, .agg #[.int .i16 u, .int .i16 v]] w (Gives (.bool true) w) := by
  have hb := fun w => around_any x y r w h1 h2 h3 h4
  have hd := fun w => dist_any x y u v w h1 h2 h3 h4 h5 h6 h7 h8
  obtain ⟨R, hR⟩ : ∃ R, (r < 0 ∧ R = 0) ∨ (0 ≤ r ∧ R = r) := by
    by_cases h : r < 0
    · exact ⟨0, .inl ⟨h, rfl⟩⟩
    · exact ⟨r, .inr ⟨by omega, rfl⟩⟩
  obtain ⟨a1, a2, a3, a4⟩ := lo_spec x r R h1 h2 hR
  obtain ⟨b1, b2, b3, b4⟩ := lo_spec y r R h3 h4 hR
  obtain ⟨c1, c2, c3, c4⟩ := hi_spec x r R h1 h2 hR
  obtain ⟨d1, d2, d3, d4⟩ := hi_spec y r R h3 h4 hR
  generalize cut (x - rad r) = A at *
  generalize cut (y - rad r) = B at *
  generalize cut (x + rad r) = C at *
  generalize cut (y + rad r) = D at *
  have p1 := apart_pos x u
  have p2 := apart_pos y v
  have hp : ∀ w, Calls Try.prog 44 #[.agg #[.int .i16 x, .int .i16 y], .agg #[.int .i16 A, .int .i16 B, .int .i16 C, .int .i16 D]] w (Gives (.bool true) w) := fun w => by
    have := inside_any x y A B C D w
    rw [ins_of a2 c1 b2 d1] at this; exact this
  have hq : ∀ w, apart x u + apart y v ≤ r → Calls Try.prog 44 #[.agg #[.int .i16 u, .int .i16 v], .agg #[.int .i16 A, .int .i16 B, .int .i16 C, .int .i16 D]] w (Gives (.bool true) w) := fun w hle => by
    have := inside_any u v A B C D w
    rw [ins_of (a4 u h5 (by omega)) (c4 u h6 (by omega)) (b4 v h7 (by omega)) (d4 v h8 (by omega))] at this; exact this
  have k1 := edge_row x y A (-32768) R h1 h2 h3 h4 a1 (by omega) (a3.imp id fun h => by rw [(apart_sub x A).2 a2]; exact h)
  have k2 := edge_row x y C 32767 R h1 h2 h3 h4 (by omega) c2 (c3.imp id fun h => by rw [(apart_sub x C).1 c1]; exact h)
  have k3 := edge_col x y B (-32768) R h1 h2 h3 h4 b1 (by omega) (b3.imp id fun h => by rw [(apart_sub y B).2 b2]; exact h)
  have k4 := edge_col x y D 32767 R h1 h2 h3 h4 (by omega) d2 (d3.imp id fun h => by rw [(apart_sub y D).1 d1]; exact h)
  rcases hR with ⟨hr, e⟩ | ⟨hr, e⟩
  · exact least_neg x y r u v A B C D _ R w hb hp hd hq (by omega) hr e (by omega) k1 k2 k3 k4
  · by_cases hdr : apart x u + apart y v ≤ r
    · exact least_in x y r u v A B C D _ R w hb hp hd hq hdr hr e (by omega) k1 k2 k3 k4
    · exact least_out x y r u v A B C D _ R w hb hp hd hq hdr hr e (by omega) k1 k2 k3 k4

set_option maxRecDepth 100000 in
theorem least_lifted (os : Os) (started : os.Started) (H : Type) (enc : TypeId × Value → H) :
    ReturnsInHanded {} Try.checked os 18 .any (Rows.planeLeastSpec.pre6 enc Try.prog Try.f18 Rows.planeLeastRow.domain false) (Rows.planeLeastSpec.post enc Try.prog Try.f18 false true false false) := by
  refine returnsInHanded_of_change (C := Try.checked) Try.own started (by kernel_rfl) Try.func18
    (ChangeSpec.witness6 (enc := enc) (C := Try.checked) false ⟨#[], #[.agg #[.int .i16 0, .int .i16 0], .int .i64 0, .agg #[.int .i16 0, .int .i16 0]], []⟩ 8 (by kernel_rfl) (by kernel_rfl) (by kernel_rfl) (by kernel_rfl)) ?_
  intro W base args ds gs before hval0 hW hcnd _
  have hval : ∀ (j : Nat) t v, Try.f18.params[j]? = some t → args[j]? = some v → Value.okWide Try.prog W .any base t v := hval0
  have hW' := hW
  obtain ⟨p, q, hA0, hV, rfl, hfz, hnd⟩ := hW
  have hA : DataW.TrodAll enc Try.prog W 0 (fun _ => true) true Try.f18.params.toList args.toList ds p := hA0
  rw [Try.params18] at hA hval
  obtain ⟨v0, v1, v2, d0, d1, d2, p0, p1, p2, rfl, rfl, rfl, h0, h1, h2⟩ := trodAll_three hA
  obtain ⟨rfl, rfl⟩ := trodVars_none hV
  obtain ⟨a0x, a0y, rfl, rfl, rfl, g00, g01, g02, g03⟩ := open_pt (hval 0 24 _ rfl rfl) h0
  obtain ⟨a1x, rfl, rfl, rfl, g10, g11⟩ := open_i (hval 1 3 _ rfl rfl) h1
  obtain ⟨a2x, a2y, rfl, rfl, rfl, g20, g21, g22, g23⟩ := open_pt (hval 2 24 _ rfl rfl) h2
  refine (least_law _ _ _ _ _ W g00 g01 g02 g03 g20 g21 g22 g23).mono fun e W2 ⟨he, x, hx⟩ => ⟨_, he, ?_⟩
  exact law_post hW' rfl rfl rfl (by kernel_rfl) (hx ▸ x.h)

theorem least_holds : Rows.PlaneLeastSaid :=
  OpenClaim.holds_of_wide 18 Try.f18 rfl rfl rfl rfl rfl rfl rfl ⟨rfl, rfl, rfl, rfl, rfl⟩ rfl rfl rfl rfl rfl (by kernel_rfl) Try.func18 (by kernel_rfl)
    (of_decide_eq_true (by kernel_rfl)) (by unfold Func.isWrapper; rw [if_neg (of_decide_eq_false (by kernel_rfl))]; exact ⟨rfl, rfl⟩)
    (fun os started H enc _ => least_lifted os started H enc)
end Go.Proofs.Ytilimgjmiijkiaa
