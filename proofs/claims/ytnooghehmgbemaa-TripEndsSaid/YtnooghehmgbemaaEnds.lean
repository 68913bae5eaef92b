/- TripEnds: a trip that is begun anew in any list may be led to its end, by way of all states or as lost, and leaves rider and driver free for others, but for this very journey. No conditions: any script, any journey, any way. -/
import Derived.Test.YtnooghehmgbemaaB29
import Derived.Test.YtnooghehmgbemaaRows
import Derived.JoinedCond
import Derived.Carry
namespace Go.Proofs.Ytnooghehmgbemaa
open Go.ChangeShapes Go.WideShapes Go.ChangeAt Go.RowKit Go.Joins

theorem Tr.opv_len (o : OpV) : o.cells.length = 19 := by unfold OpV.cells; simp [fixK_len]
theorem open_ops {H : Type} {enc : TypeId × Value → H} {W : World} {base : Nat} {v : Value} {d : DataW H} {ps : List MemPlace} {r : Reach} {b0 : Nat} {held : Bool} {sp : Nat → Bool}
    (hval : Value.okWide Try.prog W r b0 48 v) (hd : DataW.Trod enc Try.prog W base sp held 48 v d ps) :
    ∃ A n c xs, v = .slice A n c ∧ Rd OpV.cells 19 W W.heap.size A n xs ∧ ∀ x ∈ xs, x.ok := by
  obtain ⟨A, n, c, xs, h1, _, h3, h4, _⟩ := open_rows OpV.cells OpV.ok Try.underlying48 (by kernel_rfl) (by decide) Tr.opv_len (fun fuel cs x h => op_cells h) hval hd
  exact ⟨A, n, c, xs, h1, h3, h4⟩
set_option maxRecDepth 100000 in
theorem ends_lifted (os : Os) (started : os.Started) (H : Type) (enc : TypeId × Value → H) :
    ReturnsInHanded {} Try.checked os 5 .any (Rows.tripEndsSpec.pre6 enc Try.prog Try.f5 Rows.tripEndsRow.domain false) (Rows.tripEndsSpec.post enc Try.prog Try.f5 false true false false) := by
  refine returnsInHanded_of_change (C := Try.checked) Try.own started (by kernel_rfl) Try.func5
    (ChangeSpec.witness6 (enc := enc) (C := Try.checked) false ⟨#[], #[.slice none 0 0, .agg #[.int .u8 0, .int .u8 0, .int .u8 0, .int .u8 0, .int .u8 0, .int .u8 0, .int .u8 0, .int .u8 0, .int .u8 0, .int .u8 0, .int .u8 0, .int .u8 0, .int .u8 0, .int .u8 0, .int .u8 0, .int .u8 0], .int .i64 0], []⟩ 8 (by kernel_rfl) (by kernel_rfl) (by kernel_rfl) (by kernel_rfl)) ?_
  intro W base args ds gs before hval0 hW hcnd _
  have hval : ∀ (j : Nat) t v, Try.f5.params[j]? = some t → args[j]? = some v → Value.okWide Try.prog W .any base t v := hval0
  have hW' := hW
  obtain ⟨p, q, hA0, hV, rfl, hfz, hnd⟩ := hW
  have hA : DataW.TrodAll enc Try.prog W 0 (fun _ => true) true Try.f5.params.toList args.toList ds p := hA0
  rw [Try.params5] at hA hval
  obtain ⟨v0, v1, v2, d0, d1, d2, p0, p1, p2, rfl, rfl, rfl, h0, h1, h2⟩ := trodAll_three hA
  obtain ⟨rfl, rfl⟩ := trodVars_none hV
  obtain ⟨A, n, c, xs, rfl, hR, hx⟩ := open_ops (hval 0 48 _ rfl rfl) h0
  obtain ⟨k, rfl, hk⟩ := open_j (hval 1 25 _ rfl rfl) h1
  obtain ⟨lost, rfl, rfl, rfl, _⟩ := open_i (hval 2 3 _ rfl rfl) h2
  refine (ends_core xs hx A n c k hk lost W hR).mono fun e W2 ⟨he, x, hx⟩ => ⟨_, he, ?_⟩
  exact law_post hW' rfl rfl rfl (by kernel_rfl) (hx ▸ x.h)

theorem ends_holds : Rows.TripEndsSaid :=
  OpenClaim.holds_of_wide 5 Try.f5 rfl rfl rfl rfl rfl rfl rfl ⟨rfl, rfl, rfl, rfl, rfl⟩ rfl rfl rfl rfl rfl (by kernel_rfl) Try.func5 (by kernel_rfl)
    (of_decide_eq_true (by kernel_rfl)) (by unfold Func.isWrapper; rw [if_neg (of_decide_eq_false (by kernel_rfl))]; exact ⟨rfl, rfl⟩)
    (fun os started H enc _ => ends_lifted os started H enc)
end Go.Proofs.Ytnooghehmgbemaa
