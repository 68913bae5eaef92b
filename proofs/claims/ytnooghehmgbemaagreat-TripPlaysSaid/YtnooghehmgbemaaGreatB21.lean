/- Trip: SameTrips of the same trips. -/
import Derived.Test.YtnooghehmgbemaaGreatB20
namespace Go.Proofs.YtnooghehmgbemaaGreat
open Go.RowKit
set_option linter.unusedVariables false
set_option linter.unusedSimpArgs false

set_option maxRecDepth 20000 in
set_option maxHeartbeats 4000000 in
theorem same_ok (l : List Tr) (hok : ∀ t ∈ l, t.ok) (hn : l.length ≤ 1048576) (v v' : Value) (w : World) (h : RowT w v l) (h' : RowT w v' l) : Calls Tryz.prog 10 #[v, v'] w (Gives (.bool true) w) := by
  have H := Lib.hid h
  have H' := Lib.hid h'
  obtain ⟨ao, cap, ev, _⟩ := h
  obtain ⟨ao', cap', ev', _⟩ := h'
  have OK := Lib.hid hok
  clear hok
  subst ev ev'
  go_enter Tryz.func10, Tryz.ntmps10
  go_wp2_with fail
  go_loopg [5] l.length (fun gk v5 wr => ∃ j : Nat, j + gk = l.length ∧ v5 = .int .i64 j ∧ Below w.heap.size w wr)
  case atStart => exact ⟨0, by omega, rfl, Below.refl _ w⟩
  case round =>
    obtain ⟨j, hj, rfl, hb⟩ := hrel
    by_cases hlt : j < l.length
    · obtain ⟨t, ht⟩ : ∃ t, l[j]? = some t := ⟨_, List.getElem?_eq_getElem hlt⟩
      have hto := OK.out t (List.mem_of_getElem? ht)
      obtain ⟨g, c, e1, T1⟩ := H.out.get OK.out ht
      obtain ⟨g', c', e2, T2⟩ := H'.out.get OK.out ht
      cases e1
      cases e2
      replace T1 := T1.below hb (Nat.le_refl _)
      replace T2 := T2.below hb (Nat.le_refl _)
      have TT := Lib.hid T1
      have TT' := Lib.hid T2
      have HT := Lib.hid hto
      have HJ := Lib.hid (And.intro hj hlt)
      clear T1 T2 hto
      go_wp2_with fail
      have hto := HT.out
      have T1 := TT.out
      have T2 := TT'.out
      refine wp_region_bel wr.heap.size wr (Below.refl _ wr) (by kernel_rfl) (by kernel_rfl) ?_
      refine wpQuiet_yields (v := .slice (some ⟨g, 0, none⟩) l.length cap) (Or.inl ⟨by rfl, fun z hz => ?_⟩) ?_
      · go_simp
      try simp only [Act.put, List.setIfInBounds_toArray, List.set_cons_zero, List.set_cons_succ]
      refine wpQuiet_yields (v := .int .i64 j) (Or.inl ⟨by rfl, fun z hz => ?_⟩) ?_
      · go_simp
      try simp only [Act.put, List.setIfInBounds_toArray, List.set_cons_zero, List.set_cons_succ]
      refine wpQuiet_yields (v := .pointer (some ⟨g, j * 23, none⟩)) (Or.inl ⟨by rfl, fun z hz => ?_⟩) ?_
      · go_simp
      try simp only [Act.put, List.setIfInBounds_toArray, List.set_cons_zero, List.set_cons_succ]
      refine wpQuiet_yields (v := .agg t.cells.toArray) (y_load (by rfl) 83 _ (by rfl) g (j * 23) (by rfl) t.cells _ 23 (fun z hz => range_below T1.all hz T1.lt) Tryz.underlying83 rfl size40 hto.length) ?_
      try simp only [Act.put, List.setIfInBounds_toArray, List.set_cons_zero, List.set_cons_succ]
      refine wpQuiet_yields (v := .slice (some ⟨g', 0, none⟩) l.length cap') (Or.inl ⟨by rfl, fun z hz => ?_⟩) ?_
      · go_simp
      try simp only [Act.put, List.setIfInBounds_toArray, List.set_cons_zero, List.set_cons_succ]
      refine wpQuiet_yields (v := .int .i64 j) (Or.inl ⟨by rfl, fun z hz => ?_⟩) ?_
      · go_simp
      try simp only [Act.put, List.setIfInBounds_toArray, List.set_cons_zero, List.set_cons_succ]
      refine wpQuiet_yields (v := .pointer (some ⟨g', j * 23, none⟩)) (Or.inl ⟨by rfl, fun z hz => ?_⟩) ?_
      · go_simp
      try simp only [Act.put, List.setIfInBounds_toArray, List.set_cons_zero, List.set_cons_succ]
      refine wpQuiet_yields (v := .agg t.cells.toArray) (y_load (by rfl) 83 _ (by rfl) g' (j * 23) (by rfl) t.cells _ 23 (fun z hz => range_below T2.all hz T2.lt) Tryz.underlying83 rfl size40 hto.length) ?_
      try simp only [Act.put, List.setIfInBounds_toArray, List.set_cons_zero, List.set_cons_succ]
      refine wpQuiet_yields (v := .bool false) (y_eq (by rfl) true 83 _ _ _ (by rfl) t.cells.toArray t.cells.toArray (.bool false) (by rfl) (by rfl) guard40 (ne_tt hto hto false ⟨fun _ => rfl, fun _ => rfl⟩)) ?_
      try simp only [Act.put, List.setIfInBounds_toArray, List.set_cons_zero, List.set_cons_succ]
      refine wpQuiet_nil ?_
      intro z hz
      clear hto T1 T2
      go_wp2_with fail
      go_roundg (gk - 1)
      case measure => have := HJ.out; omega
      case rel => exact ⟨j + 1, by have := HJ.out; omega, by have := HJ.out; go_num, hb.trans (hz.mono hb.size)⟩
    · have e : j = l.length := by omega
      subst e
      go_wp2_with fail
      go_ret
      exact gives_of_eq rfl hb
end Go.Proofs.YtnooghehmgbemaaGreat
