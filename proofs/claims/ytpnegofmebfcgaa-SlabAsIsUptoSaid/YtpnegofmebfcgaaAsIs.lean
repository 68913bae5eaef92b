/- A slab of pointers hands each pointer on as the same one, by Get, by All and by Drop, whatever was dropped meanwhile. Condition: what comes in is no larger than the second form's bound. -/
import Derived.Test.YtpnegofmebfcgaaL3
import Derived.Test.YtpnegofmebfcgaaL4
import Derived.Test.YtpnegofmebfcgaaL5
import Derived.Test.YtpnegofmebfcgaaP3
import Derived.Test.YtpnegofmebfcgaaRows
import Derived.JoinedCond
namespace Go.Proofs.Ytpnegofmebfcgaa
open Go.ChangeShapes Go.WideShapes Go.ChangeAt Go.RowKit

set_option maxRecDepth 100000 in
theorem asis_contract (H : Type) (enc : TypeId × Value → H) (W : World) (base : Nat) (args : Array Value) (ds gs : List (DataW H)) (before : List MemPlace)
    (hval : ∀ (j : Nat) t v, Try.f3.params[j]? = some t → args[j]? = some v → Value.okWide Try.prog W .any base t v)
    (hW : DataW.Whole enc Try.prog Try.f3.params.toList Rows.slabAsIsSpec.vars false W args.toList ds gs before) (hk : Rows.uptoSmall H (ds ++ gs) = true) :
    Calls Try.prog 3 args W fun e W' => ∃ v, e = .returned v ∧ Rows.slabAsIsSpec.post enc Try.prog Try.f3 false true false false W args v W' := by
  have hW' := hW
  obtain ⟨p, q, hA0, hV, rfl, hfz, hnd⟩ := hW
  have hA : DataW.TrodAll enc Try.prog W 0 (fun _ => true) true Try.f3.params.toList args.toList ds p := hA0
  rw [Try.params3] at hA hval
  obtain ⟨v0, v1, d0, d1, p0, p1, rfl, rfl, rfl, h0, h1⟩ := trodAll_two hA
  obtain ⟨rfl, rfl⟩ := trodVars_none hV
  obtain ⟨A1, n1, c1, xs, rfl, hc1, hp1, _, hd1⟩ := open_ints (hval 0 22 _ rfl rfl) h0
  have hA1 := nil_cap Try.underlying22 h0
  obtain ⟨A2, n2, c2, ys, rfl, hc2, hp2, _, hd2⟩ := open_ints (hval 1 22 _ rfl rfl) h1
  have hn1 : n1 ≤ 1048576 := by
    rcases hd1 with rfl | ⟨elems, spare, rfl, rfl⟩
    · decide
    · exact bulk_mem elems spare (by simp) hk
  have hn2 : n2 ≤ 1048576 := by
    rcases hd2 with rfl | ⟨elems, spare, rfl, rfl⟩
    · decide
    · exact bulk_mem elems spare (by simp) hk
  refine (asis_core A1 n1 c1 A2 n2 c2 xs ys W hp1 hp2 hn1 hn2 hc1 hA1).mono fun e W2 ⟨he, x, hx⟩ => ⟨_, he, ?_⟩
  exact law_post hW' rfl rfl rfl (by kernel_rfl) (hx ▸ x.h)

set_option maxRecDepth 100000 in
theorem asis_lifted (os : Os) (started : os.Started) (H : Type) (enc : TypeId × Value → H) (F : Stop.Interp) :
    ReturnsInHanded {} Try.checked os 3 .any ((Rows.OpenSpec.upto Rows.slabAsIsSpec).pre6 enc Try.prog Try.f3 Rows.slabAsIsUptoRow.domain false) (((Rows.OpenSpec.upto Rows.slabAsIsSpec).at F).post enc Try.prog Try.f3 false true false false) := by
  refine returnsInHanded_of_cond (C := Try.checked) (s := Rows.OpenSpec.upto Rows.slabAsIsSpec) (k := Rows.uptoSmall) rfl Try.own started (by kernel_rfl) Try.func3
    (OpenSpec.witness (enc := enc) (C := Try.checked) (s := Rows.OpenSpec.upto Rows.slabAsIsSpec) (k := Rows.uptoSmall) rfl false ⟨#[], #[.slice none 0 0, .slice none 0 0], []⟩ 8 (by kernel_rfl) (by kernel_rfl) (by kernel_rfl)
      (x := ([.nil, .nil], [], [])) (by kernel_rfl) rfl (by kernel_rfl)) ?_
  intro W base args ds gs before hval hW _ hk _
  exact asis_contract H enc W base args ds gs before hval hW hk

theorem asis_holds : Rows.SlabAsIsUptoSaid :=
  OpenClaim.holds_of_cond 3 Try.f3 rfl rfl rfl rfl rfl rfl rfl ⟨rfl, rfl, rfl, rfl, rfl⟩ rfl rfl rfl rfl rfl (by kernel_rfl) Try.func3 (by kernel_rfl)
    (of_decide_eq_true (by kernel_rfl)) (by unfold Func.isWrapper; rw [if_neg (of_decide_eq_false (by kernel_rfl))]; exact ⟨rfl, rfl⟩)
    (fun os started H enc _ F => asis_lifted os started H enc F)
end Go.Proofs.Ytpnegofmebfcgaa
