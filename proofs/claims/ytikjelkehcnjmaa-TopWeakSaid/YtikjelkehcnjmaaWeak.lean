/- TopWeak: whatever certificate is taken, its matching is worth what the best one is, and no other matching of the graph is worth more. No conditions: any graph, any certificate, any pairs. -/
import Derived.Test.YtikjelkehcnjmaaW25
import Derived.Test.YtikjelkehcnjmaaL
namespace Go.Proofs.Ytikjelkehcnjmaa
open Go.ChangeShapes Go.WideShapes Go.ChangeAt Go.RowKit
set_option maxRecDepth 100000 in
theorem weak_lifted (os : Os) (started : os.Started) (H : Type) (enc : TypeId × Value → H) :
    ReturnsInHanded {} Try.checked os 4 .any (Rows.topWeakSpec.pre6 enc Try.prog Try.f4 Rows.topWeakRow.domain false) (Rows.topWeakSpec.post enc Try.prog Try.f4 false true false false) := by
  refine returnsInHanded_of_change (C := Try.checked) Try.own started (by kernel_rfl) Try.func4
    (ChangeSpec.witness6 (enc := enc) (C := Try.checked) false ⟨#[], #[.agg #[.int .i64 0, .int .i64 0, .slice none 0 0], .agg #[.slice none 0 0, .slice none 0 0, .slice none 0 0], .slice none 0 0], []⟩ 8 (by kernel_rfl) (by kernel_rfl) (by kernel_rfl) (by kernel_rfl)) ?_
  intro W base args ds gs before hval0 hW hcnd _
  have hval : ∀ (j : Nat) t v, Try.f4.params[j]? = some t → args[j]? = some v → Value.okWide Try.prog W .any base t v := hval0
  have hW' := hW
  obtain ⟨p, q, hA0, hV, rfl, hfz, hnd⟩ := hW
  have hA : DataW.TrodAll enc Try.prog W 0 (fun _ => true) true Try.f4.params.toList args.toList ds p := hA0
  rw [Try.params4] at hA hval
  obtain ⟨v0, v1, v2, d0, d1, d2, p0, p1, p2, rfl, rfl, rfl, h0, h1, h2⟩ := trodAll_three hA
  obtain ⟨rfl, rfl⟩ := trodVars_none hV
  obtain ⟨rows, cols, A, n, c, xs, rfl, hn, hR⟩ := open_g (hval 0 24 _ rfl rfl) h0
  obtain ⟨A1, n1, c1, A2, n2, c2, A3, n3, c3, ps, ys, zs, rfl, hn1, hP, hY, hZ, yb⟩ := open_c (hval 1 28 _ rfl rfl) h1
  obtain ⟨A4, n4, c4, qs, rfl, hn4, hQ⟩ := open_prs (hval 2 26 _ rfl rfl) h2
  have core : Calls Try.prog 4 #[.agg (gv rows cols A n c), .agg (cv A1 n1 c1 A2 n2 c2 A3 n3 c3), .slice A4 n4 c4] W (Gives (.bool true) W) := by
    by_cases hG : Gr rows cols xs
    · have s := hG.1
      unfold Sz at s
      obtain ⟨m, rfl⟩ : ∃ m : Nat, rows = m := ⟨rows.toNat, by omega⟩
      obtain ⟨k, rfl⟩ : ∃ k : Nat, cols = k := ⟨cols.toNat, by omega⟩
      exact weak_ok hR hn hG hP hn1 hY hZ yb hQ hn4
    · exact weak_no hR hn hG hP hn1 hY hZ yb
  refine core.mono fun e W2 ⟨he, x, hx⟩ => ⟨_, he, ?_⟩
  exact law_post hW' rfl rfl rfl (by kernel_rfl) (hx ▸ x.h)
theorem weak_holds : Rows.TopWeakSaid :=
  OpenClaim.holds_of_wide 4 Try.f4 rfl rfl rfl rfl rfl rfl rfl ⟨rfl, rfl, rfl, rfl, rfl⟩ rfl rfl rfl rfl rfl (by kernel_rfl) Try.func4 (by kernel_rfl)
    (of_decide_eq_true (by kernel_rfl)) (by unfold Func.isWrapper; rw [if_neg (of_decide_eq_false (by kernel_rfl))]; exact ⟨rfl, rfl⟩)
    (fun os started H enc _ => weak_lifted os started H enc)
end Go.Proofs.Ytikjelkehcnjmaa
