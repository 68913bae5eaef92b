/- TripKeeps: behind any calls nobody is on two trips, each trip stands as one may; a call that is refused changes nothing, one that answers OK turns just one trip; Get and Of say what List says. No conditions: any script. -/
import Derived.Test.YtnooghehmgbemaaB27
import Derived.Test.YtnooghehmgbemaaRows
import Derived.JoinedCond
import Derived.Carry
namespace Go.Proofs.Ytnooghehmgbemaa
open Go.ChangeShapes Go.WideShapes Go.ChangeAt Go.RowKit Go.Joins

theorem Tr.opv_len (o : OpV) : o.cells.length = 19 := by unfold OpV.cells; simp [fixK_len]
theorem open_ops {H : Type} {enc : TypeId × Value → H} {W : World} {base : Nat} {v : Value} {d : DataW H} {ps : List MemPlace} {r : Reach} {b0 : Nat} {held : Bool} {sp : Nat → Bool}
    (hval : Value.okWide Try.prog W r b0 48 v) (hd : DataW.Trod enc Try.prog W base sp held 48 v d ps) :
    ∃ A n c xs, v = .slice A n c ∧ Rd OpV.cells 19 W W.heap.size A n xs ∧ ∀ x ∈ xs, x.ok := by
  obtain ⟨A, n, c, xs, h1, _, h3, h4, _⟩ := open_rows OpV.cells OpV.ok Try.underlying48 (by kernel_rfl) (by decide) Tr.opv_len (fun fuel cs x h => op_cells h) hval hd
  exact ⟨A, n, c, xs, h1, h3, h4⟩
set_option maxRecDepth 100000 in
theorem keeps_lifted (os : Os) (started : os.Started) (H : Type) (enc : TypeId × Value → H) :
    ReturnsInHanded {} Try.checked os 4 .any (Rows.tripKeepsSpec.pre6 enc Try.prog Try.f4 Rows.tripKeepsRow.domain false) (Rows.tripKeepsSpec.post enc Try.prog Try.f4 false true false false) := by
  refine returnsInHanded_of_change (C := Try.checked) Try.own started (by kernel_rfl) Try.func4
    (ChangeSpec.witness6 (enc := enc) (C := Try.checked) false ⟨#[], #[.slice none 0 0], []⟩ 8 (by kernel_rfl) (by kernel_rfl) (by kernel_rfl) (by kernel_rfl)) ?_
  intro W base args ds gs before hval0 hW hcnd _
  have hval : ∀ (j : Nat) t v, Try.f4.params[j]? = some t → args[j]? = some v → Value.okWide Try.prog W .any base t v := hval0
  have hW' := hW
  obtain ⟨p, q, hA0, hV, rfl, hfz, hnd⟩ := hW
  have hA : DataW.TrodAll enc Try.prog W 0 (fun _ => true) true Try.f4.params.toList args.toList ds p := hA0
  rw [Try.params4] at hA hval
  obtain ⟨v0, d0, rfl, rfl, h0⟩ := trodAll_one hA
  obtain ⟨rfl, rfl⟩ := trodVars_none hV
  obtain ⟨A, n, c, xs, rfl, hR, hx⟩ := open_ops (hval 0 48 _ rfl rfl) h0
  refine (keeps_core xs hx A n c W hR).mono fun e W2 ⟨he, x, hx⟩ => ⟨_, he, ?_⟩
  exact law_post hW' rfl rfl rfl (by kernel_rfl) (hx ▸ x.h)

theorem keeps_holds : Rows.TripKeepsSaid :=
  OpenClaim.holds_of_wide 4 Try.f4 rfl rfl rfl rfl rfl rfl rfl ⟨rfl, rfl, rfl, rfl, rfl⟩ rfl rfl rfl rfl rfl (by kernel_rfl) Try.func4 (by kernel_rfl)
    (of_decide_eq_true (by kernel_rfl)) (by unfold Func.isWrapper; rw [if_neg (of_decide_eq_false (by kernel_rfl))]; exact ⟨rfl, rfl⟩)
    (fun os started H enc _ => keeps_lifted os started H enc)
end Go.Proofs.Ytnooghehmgbemaa
