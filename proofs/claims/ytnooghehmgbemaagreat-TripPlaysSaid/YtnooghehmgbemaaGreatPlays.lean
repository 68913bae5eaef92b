/- TripPlays: a list of trips and its reference say the same at every call, forwards and backwards over one script; what was answered lies apart. No conditions: any script. -/
import Derived.Test.YtnooghehmgbemaaGreatP20
import Derived.Test.YtnooghehmgbemaaGreatRows
import Derived.JoinedCond
import Derived.Carry
namespace Go.Proofs.YtnooghehmgbemaaGreat
open Go.ChangeShapes Go.WideShapes Go.ChangeAt Go.RowKit Go.Joins

theorem Tr.opv_len (o : OpV) : o.cells.length = 19 := by unfold OpV.cells; simp [fixK_len]
theorem cap_max {T E : TypeId} (hu : Tryz.prog.underlying T = some (.slice E)) {H : Type} {enc : TypeId × Value → H} {W : World} {base : Nat} {A : Option Addr} {n c : Nat} {d : DataW H} {ps : List MemPlace} {held : Bool} {sp : Nat → Bool}
    (hd : DataW.Trod enc Tryz.prog W base sp held T (.slice A n c) d ps) : c ≤ 9223372036854775807 := by
  obtain ⟨fuel, hf⟩ := hd
  rcases Go.Deep.open_slice hu hf with ⟨h0, _⟩ | ⟨a, len, cap, m, k, D, Pl, hcs, _, _, hm, _⟩
  · simp only [Value.cells] at h0
    injection h0 with h0
    injection h0 with _ _ e3
    omega
  · simp only [Value.cells] at hcs
    injection hcs with hcs
    injection hcs with _ _ e3
    rw [e3]
    exact hm
set_option maxRecDepth 100000 in
theorem open_ops {H : Type} {enc : TypeId × Value → H} {W : World} {base : Nat} {v : Value} {d : DataW H} {ps : List MemPlace} {r : Reach} {b0 : Nat} {held : Bool} {sp : Nat → Bool}
    (hval : Value.okWide Tryz.prog W r b0 22 v) (hd : DataW.Trod enc Tryz.prog W base sp held 22 v d ps) :
    ∃ A n c xs, v = .slice A n c ∧ n ≤ c ∧ Rd OpV.cells 19 W W.heap.size A n xs ∧ ∀ x ∈ xs, x.ok := by
  obtain ⟨A, n, c, xs, h1, h2, h3, h4, _⟩ := open_rows OpV.cells OpV.ok Tryz.underlying22 (by kernel_rfl) (by decide) Tr.opv_len (fun fuel cs x h => op_cells h) hval hd
  exact ⟨A, n, c, xs, h1, h2, h3, h4⟩
set_option maxRecDepth 100000 in
theorem plays_lifted (os : Os) (started : os.Started) (H : Type) (enc : TypeId × Value → H) :
    ReturnsInHanded {} Tryz.checked os 3 .any (Rows.tripPlaysSpec.pre6 enc Tryz.prog Tryz.f3 Rows.tripPlaysRow.domain false) (Rows.tripPlaysSpec.post enc Tryz.prog Tryz.f3 false true false false) := by
  refine returnsInHanded_of_change (C := Tryz.checked) Tryz.own started (by kernel_rfl) Tryz.func3
    (ChangeSpec.witness6 (enc := enc) (C := Tryz.checked) false ⟨#[], #[.slice none 0 0], []⟩ 8 (by kernel_rfl) (by kernel_rfl) (by kernel_rfl) (by kernel_rfl)) ?_
  intro W base args ds gs before hval0 hW hcnd _
  have hval : ∀ (j : Nat) t v, Tryz.f3.params[j]? = some t → args[j]? = some v → Value.okWide Tryz.prog W .any base t v := hval0
  have hW' := hW
  obtain ⟨p, q, hA0, hV, rfl, hfz, hnd⟩ := hW
  have hA : DataW.TrodAll enc Tryz.prog W 0 (fun _ => true) true Tryz.f3.params.toList args.toList ds p := hA0
  rw [Tryz.params3] at hA hval
  obtain ⟨v0, d0, rfl, rfl, h0⟩ := trodAll_one hA
  obtain ⟨rfl, rfl⟩ := trodVars_none hV
  obtain ⟨A, n, c, xs, rfl, hc, hR, hx⟩ := open_ops (hval 0 22 _ rfl rfl) h0
  refine (plays_core xs hx A n c (Nat.le_trans hc (cap_max Tryz.underlying22 h0)) W hR).mono fun e W2 ⟨he, x, hx⟩ => ⟨_, he, ?_⟩
  exact law_post hW' rfl rfl rfl (by kernel_rfl) (hx ▸ x.h)

theorem plays_holds : Rows.TripPlaysSaid :=
  OpenClaim.holds_of_wide 3 Tryz.f3 rfl rfl rfl rfl rfl rfl rfl ⟨rfl, rfl, rfl, rfl, rfl⟩ rfl rfl rfl rfl rfl (by kernel_rfl) Tryz.func3 (by kernel_rfl)
    (of_decide_eq_true (by kernel_rfl)) (by unfold Func.isWrapper; rw [if_neg (of_decide_eq_false (by kernel_rfl))]; exact ⟨rfl, rfl⟩)
    (fun os started H enc _ => plays_lifted os started H enc)
end Go.Proofs.YtnooghehmgbemaaGreat
