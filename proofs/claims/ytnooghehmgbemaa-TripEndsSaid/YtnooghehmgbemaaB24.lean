/- Trip: alone. -/
import Derived.Test.YtnooghehmgbemaaB23
namespace Go.Proofs.Ytnooghehmgbemaa
open Go.RowKit
set_option linter.unusedVariables false
set_option linter.unusedSimpArgs false


section
variable {P : Program} {ops : Array Oper} {rest : List Oper} {o : Oper} {a : Act} {C : World → Prop} {Q : Act → Prop}
/-- wpQuiet, shut: nothing unfolds it -/
structure WQ (P : Program) (ops : Array Oper) (C : World → Prop) (Q : Act → Prop) (l : List Oper) (a : Act) : Prop where
  out : wpQuiet P ops C Q l a
theorem WQ.skip (hw : Region.wanted o (yielded ops a.tmps) = false) (h : WQ P ops C Q rest (a.put o.dst undef)) : WQ P ops C Q (o :: rest) a := ⟨BigFrame.wpQuiet_skip hw h.out⟩
theorem WQ.yields {v : Value} (hy : YieldsIf P ops C o v a) (h : WQ P ops C Q rest (a.put o.dst v)) : WQ P ops C Q (o :: rest) a := ⟨wpQuiet_yields hy h.out⟩
theorem WQ.calls {v : Value} {f : FuncId} {args : Array Value} (hw : Region.wanted o (yielded ops a.tmps) = true) (hx : ∀ w, C w → (execOp a.eval o).run P w = .ok (.enter f args) w) (hc : ∀ w, C w → Calls P f args w fun e w'' => e = .returned v ∧ C w'')
    (h : WQ P ops C Q rest (a.put o.dst v)) : WQ P ops C Q (o :: rest) a := ⟨wpQuiet_calls hw hx hc h.out⟩
theorem WQ.nil (h : Q a) : WQ P ops C Q [] a := ⟨wpQuiet_nil h⟩
end
theorem wp_region_wq {P : Program} {id : Nat} {Q : Exit → Act → World → Prop} {a : Act} {w : World} {l : List Oper} (B : Nat) (W : World) (hw : Below B W w) (hm : P.follows .mixedOrders = true) (hB : Region.lexB .any l.toArray = true)
    (h : WQ P l.toArray (Below B W) (fun a' => ∀ u, Below B W u → Q .normal a' u) l a) : (Code.region id l.toArray true).wp P Q a w := wp_region_bel B W hw hm hB h.out
theorem endB_t (t : Tr) (ht : t.ok) (b : Bool) (hb : t.endB = b) (w : World) : Calls Try.prog 18 #[.agg t.cells.toArray] w (Gives (.bool b) w) := by
  have := ended_ok t ht w; rwa [hb] at this
set_option maxRecDepth 20000 in
set_option maxHeartbeats 4000000 in
theorem alone_ok (l : List Tr) (hok : ∀ t ∈ l, t.ok) (hn : l.length ≤ 1048576) (dk : l.Pairwise fun a b => a.k ≠ b.k) (dr : l.Pairwise fun a b => a.on → b.on → a.rider ≠ b.rider) (dd : l.Pairwise fun a b => a.on → b.on → a.driver ≠ b.driver)
    (v : Value) (w : World) (h : RowT w v l) : Calls Try.prog 15 #[v] w (Gives (.bool true) w) := by
  have H := Lib.hid h
  obtain ⟨ao, cap, ev, _⟩ := h
  have OK := Lib.hid hok
  have DK := Lib.hid dk
  have DR := Lib.hid dr
  have DD := Lib.hid dd
  clear hok dk dr dd
  subst ev
  go_enter Try.func15, Try.ntmps15
  go_wp2_with fail
  go_loopg [3] l.length (fun gk v3 wr => ∃ j : Nat, j + gk = l.length ∧ v3 = .int .i64 j ∧ Below w.heap.size w wr)
  case atStart => exact ⟨0, by omega, rfl, Below.refl _ w⟩
  case round =>
    obtain ⟨j, hj, rfl, hb⟩ := hrel
    by_cases hlt : j < l.length
    · obtain ⟨t, ht⟩ : ∃ t, l[j]? = some t := ⟨_, List.getElem?_eq_getElem hlt⟩
      have hto := OK.out t (List.mem_of_getElem? ht)
      obtain ⟨g, c, e1, T1⟩ := H.out.get OK.out ht
      cases e1
      have TT := Lib.hid T1
      have HT := Lib.hid hto
      have HM := Lib.hid ht
      have HJ := Lib.hid (And.intro hj hlt)
      clear T1 hto ht
      go_wp2_with fail
      go_loopg [4] j (fun gm v4 wq => ∃ m : Nat, m + gm = j ∧ v4 = .int .i64 m ∧ Below w.heap.size w wq)
      case atStart => exact ⟨0, by omega, rfl, hb⟩
      case round =>
        clear hb
        obtain ⟨m, hm, rfl, hb⟩ := hrel
        by_cases hmt : m < j
        · have hml : m < l.length := by omega
          obtain ⟨u, hu⟩ : ∃ u, l[m]? = some u := ⟨_, List.getElem?_eq_getElem hml⟩
          have huo := OK.out u (List.mem_of_getElem? hu)
          obtain ⟨g', c', e2, T2⟩ := H.out.get OK.out hu
          cases e2
          have eu := (List.getElem?_eq_some_iff.1 hu).2
          have et := (List.getElem?_eq_some_iff.1 HM.out).2
          have nk : t.k ≠ u.k := fun e => (List.pairwise_iff_getElem.1 DK.out) m j hml hlt hmt (by rw [eu, et, e])
          have nr : t.on → u.on → t.rider ≠ u.rider := fun a b e => (List.pairwise_iff_getElem.1 DR.out) m j hml hlt hmt (by rw [eu]; exact b) (by rw [et]; exact a) (by rw [eu, et, e])
          have nd : t.on → u.on → t.driver ≠ u.driver := fun a b e => (List.pairwise_iff_getElem.1 DD.out) m j hml hlt hmt (by rw [eu]; exact b) (by rw [et]; exact a) (by rw [eu, et, e])
          have T1 := TT.out.below hb (Nat.le_refl _)
          replace T2 := T2.below hb (Nat.le_refl _)
          have hto := HT.out
          have NK := Lib.hid nk
          have NR := Lib.hid nr
          have ND := Lib.hid nd
          have HM2 := Lib.hid (And.intro hm hmt)
          have HU := Lib.hid hu
          clear nk nr nd hu eu et
          have HH := Lib.hid (And.intro (And.intro T1 T2) (And.intro hto huo))
          clear T1 T2 hto huo
          go_wp2_with fail
          obtain ⟨⟨T1, T2⟩, hto, huo⟩ := HH.out
          by_cases ot : t.on
          · have et : t.endB = false := endB_on.2 ot
            by_cases ou : u.on
            · have eu : u.endB = false := endB_on.2 ou
              refine wp_region_wq wr.heap.size wr (Below.refl _ wr) (by kernel_rfl) (by kernel_rfl) ?_
              refine WQ.yields (v := .slice (some ⟨g, 0, none⟩) l.length cap) (Or.inl ⟨by rfl, fun z hz => ?_⟩) ?_
              · go_simp
              try simp only [Act.put, List.setIfInBounds_toArray, List.set_cons_zero, List.set_cons_succ]
              refine WQ.yields (v := .int .i64 j) (Or.inl ⟨by rfl, fun z hz => ?_⟩) ?_
              · go_simp
              try simp only [Act.put, List.setIfInBounds_toArray, List.set_cons_zero, List.set_cons_succ]
              refine WQ.yields (v := .pointer (some ⟨g, j * 23, none⟩)) (Or.inl ⟨by rfl, fun z hz => ?_⟩) ?_
              · go_simp
              try simp only [Act.put, List.setIfInBounds_toArray, List.set_cons_zero, List.set_cons_succ]
              refine WQ.yields (v := .pointer (some ⟨g, j * 23, none⟩)) (Or.inl ⟨by rfl, fun z hz => ?_⟩) ?_
              · go_simp
              try simp only [Act.put, List.setIfInBounds_toArray, List.set_cons_zero, List.set_cons_succ]
              refine WQ.yields (v := .agg t.k.toArray) (y_load (by rfl) 25 _ (by rfl) g (j * 23) (by rfl) t.k _ 16 (fun z hz => range_below T1.key hz T1.lt) Try.underlying25 rfl size25 hto.k.1) ?_
              try simp only [Act.put, List.setIfInBounds_toArray, List.set_cons_zero, List.set_cons_succ]
              refine WQ.yields (v := .slice (some ⟨g, 0, none⟩) l.length cap) (Or.inl ⟨by rfl, fun z hz => ?_⟩) ?_
              · go_simp
              try simp only [Act.put, List.setIfInBounds_toArray, List.set_cons_zero, List.set_cons_succ]
              refine WQ.yields (v := .int .i64 m) (Or.inl ⟨by rfl, fun z hz => ?_⟩) ?_
              · go_simp
              try simp only [Act.put, List.setIfInBounds_toArray, List.set_cons_zero, List.set_cons_succ]
              refine WQ.yields (v := .pointer (some ⟨g, m * 23, none⟩)) (Or.inl ⟨by rfl, fun z hz => ?_⟩) ?_
              · go_simp
              try simp only [Act.put, List.setIfInBounds_toArray, List.set_cons_zero, List.set_cons_succ]
              refine WQ.yields (v := .pointer (some ⟨g, m * 23, none⟩)) (Or.inl ⟨by rfl, fun z hz => ?_⟩) ?_
              · go_simp
              try simp only [Act.put, List.setIfInBounds_toArray, List.set_cons_zero, List.set_cons_succ]
              refine WQ.yields (v := .agg u.k.toArray) (y_load (by rfl) 25 _ (by rfl) g (m * 23) (by rfl) u.k _ 16 (fun z hz => range_below T2.key hz T2.lt) Try.underlying25 rfl size25 huo.k.1) ?_
              try simp only [Act.put, List.setIfInBounds_toArray, List.set_cons_zero, List.set_cons_succ]
              refine WQ.yields (v := .bool false) (y_eq (by rfl) false 25 _ _ _ (by rfl) (t.k).toArray (u.k).toArray (.bool false) (by rfl) (by rfl) guard25 (eq_jj hto.k huo.k false ⟨fun e => (by cases e), fun e => (NK.out e).elim⟩)) ?_
              try simp only [Act.put, List.setIfInBounds_toArray, List.set_cons_zero, List.set_cons_succ]
              refine WQ.yields (v := .bool false) (Or.inl ⟨by rfl, fun z hz => ?_⟩) ?_
              · go_simp
              try simp only [Act.put, List.setIfInBounds_toArray, List.set_cons_zero, List.set_cons_succ]
              refine WQ.yields (v := .slice (some ⟨g, 0, none⟩) l.length cap) (Or.inl ⟨by rfl, fun z hz => ?_⟩) ?_
              · go_simp
              try simp only [Act.put, List.setIfInBounds_toArray, List.set_cons_zero, List.set_cons_succ]
              refine WQ.yields (v := .int .i64 j) (Or.inl ⟨by rfl, fun z hz => ?_⟩) ?_
              · go_simp
              try simp only [Act.put, List.setIfInBounds_toArray, List.set_cons_zero, List.set_cons_succ]
              refine WQ.yields (v := .pointer (some ⟨g, j * 23, none⟩)) (Or.inl ⟨by rfl, fun z hz => ?_⟩) ?_
              · go_simp
              try simp only [Act.put, List.setIfInBounds_toArray, List.set_cons_zero, List.set_cons_succ]
              refine WQ.yields (v := .agg t.cells.toArray) (y_load (by rfl) 40 _ (by rfl) g (j * 23) (by rfl) t.cells _ 23 (fun z hz => range_below T1.all hz T1.lt) Try.underlying40 rfl size40 hto.length) ?_
              try simp only [Act.put, List.setIfInBounds_toArray, List.set_cons_zero, List.set_cons_succ]
              refine WQ.calls (by rfl) (v := .bool false) (f := 18) (args := #[.agg t.cells.toArray]) (fun z hz => by go_simp) (fun z hz => gives_below hz (Nat.le_refl _) (endB_t t hto false et z)) ?_
              try simp only [Act.put, List.setIfInBounds_toArray, List.set_cons_zero, List.set_cons_succ]
              refine WQ.yields (v := .bool true) (Or.inl ⟨by rfl, fun z hz => ?_⟩) ?_
              · go_simp
              try simp only [Act.put, List.setIfInBounds_toArray, List.set_cons_zero, List.set_cons_succ]
              refine WQ.yields (v := .bool true) (Or.inl ⟨by rfl, fun z hz => ?_⟩) ?_
              · go_simp
              try simp only [Act.put, List.setIfInBounds_toArray, List.set_cons_zero, List.set_cons_succ]
              refine WQ.yields (v := .slice (some ⟨g, 0, none⟩) l.length cap) (Or.inl ⟨by rfl, fun z hz => ?_⟩) ?_
              · go_simp
              try simp only [Act.put, List.setIfInBounds_toArray, List.set_cons_zero, List.set_cons_succ]
              refine WQ.yields (v := .int .i64 m) (Or.inl ⟨by rfl, fun z hz => ?_⟩) ?_
              · go_simp
              try simp only [Act.put, List.setIfInBounds_toArray, List.set_cons_zero, List.set_cons_succ]
              refine WQ.yields (v := .pointer (some ⟨g, m * 23, none⟩)) (Or.inl ⟨by rfl, fun z hz => ?_⟩) ?_
              · go_simp
              try simp only [Act.put, List.setIfInBounds_toArray, List.set_cons_zero, List.set_cons_succ]
              refine WQ.yields (v := .agg u.cells.toArray) (y_load (by rfl) 40 _ (by rfl) g (m * 23) (by rfl) u.cells _ 23 (fun z hz => range_below T2.all hz T2.lt) Try.underlying40 rfl size40 huo.length) ?_
              try simp only [Act.put, List.setIfInBounds_toArray, List.set_cons_zero, List.set_cons_succ]
              refine WQ.calls (by rfl) (v := .bool false) (f := 18) (args := #[.agg u.cells.toArray]) (fun z hz => by go_simp) (fun z hz => gives_below hz (Nat.le_refl _) (endB_t u huo false eu z)) ?_
              try simp only [Act.put, List.setIfInBounds_toArray, List.set_cons_zero, List.set_cons_succ]
              refine WQ.yields (v := .bool true) (Or.inl ⟨by rfl, fun z hz => ?_⟩) ?_
              · go_simp
              try simp only [Act.put, List.setIfInBounds_toArray, List.set_cons_zero, List.set_cons_succ]
              refine WQ.yields (v := .bool true) (Or.inl ⟨by rfl, fun z hz => ?_⟩) ?_
              · go_simp
              try simp only [Act.put, List.setIfInBounds_toArray, List.set_cons_zero, List.set_cons_succ]
              refine WQ.yields (v := .bool true) (Or.inl ⟨by rfl, fun z hz => ?_⟩) ?_
              · go_simp
              try simp only [Act.put, List.setIfInBounds_toArray, List.set_cons_zero, List.set_cons_succ]
              refine WQ.yields (v := .slice (some ⟨g, 0, none⟩) l.length cap) (Or.inl ⟨by rfl, fun z hz => ?_⟩) ?_
              · go_simp
              try simp only [Act.put, List.setIfInBounds_toArray, List.set_cons_zero, List.set_cons_succ]
              refine WQ.yields (v := .int .i64 j) (Or.inl ⟨by rfl, fun z hz => ?_⟩) ?_
              · go_simp
              try simp only [Act.put, List.setIfInBounds_toArray, List.set_cons_zero, List.set_cons_succ]
              refine WQ.yields (v := .pointer (some ⟨g, j * 23, none⟩)) (Or.inl ⟨by rfl, fun z hz => ?_⟩) ?_
              · go_simp
              try simp only [Act.put, List.setIfInBounds_toArray, List.set_cons_zero, List.set_cons_succ]
              refine WQ.yields (v := .pointer (some ⟨g, j * 23, none⟩)) (Or.inl ⟨by rfl, fun z hz => ?_⟩) ?_
              · go_simp
              try simp only [Act.put, List.setIfInBounds_toArray, List.set_cons_zero, List.set_cons_succ]
              refine WQ.yields (v := .pointer (some ⟨g, j * 23, none⟩)) (Or.inl ⟨by rfl, fun z hz => ?_⟩) ?_
              · go_simp
              try simp only [Act.put, List.setIfInBounds_toArray, List.set_cons_zero, List.set_cons_succ]
              refine WQ.yields (v := .agg t.rider.toArray) (y_load (by rfl) 23 _ (by rfl) g (j * 23) (by rfl) t.rider _ 8 (fun z hz => range_below T1.rider hz T1.lt) Try.underlying23 rfl size23 hto.bk.1.1) ?_
              try simp only [Act.put, List.setIfInBounds_toArray, List.set_cons_zero, List.set_cons_succ]
              refine WQ.yields (v := .slice (some ⟨g, 0, none⟩) l.length cap) (Or.inl ⟨by rfl, fun z hz => ?_⟩) ?_
              · go_simp
              try simp only [Act.put, List.setIfInBounds_toArray, List.set_cons_zero, List.set_cons_succ]
              refine WQ.yields (v := .int .i64 m) (Or.inl ⟨by rfl, fun z hz => ?_⟩) ?_
              · go_simp
              try simp only [Act.put, List.setIfInBounds_toArray, List.set_cons_zero, List.set_cons_succ]
              refine WQ.yields (v := .pointer (some ⟨g, m * 23, none⟩)) (Or.inl ⟨by rfl, fun z hz => ?_⟩) ?_
              · go_simp
              try simp only [Act.put, List.setIfInBounds_toArray, List.set_cons_zero, List.set_cons_succ]
              refine WQ.yields (v := .pointer (some ⟨g, m * 23, none⟩)) (Or.inl ⟨by rfl, fun z hz => ?_⟩) ?_
              · go_simp
              try simp only [Act.put, List.setIfInBounds_toArray, List.set_cons_zero, List.set_cons_succ]
              refine WQ.yields (v := .pointer (some ⟨g, m * 23, none⟩)) (Or.inl ⟨by rfl, fun z hz => ?_⟩) ?_
              · go_simp
              try simp only [Act.put, List.setIfInBounds_toArray, List.set_cons_zero, List.set_cons_succ]
              refine WQ.yields (v := .agg u.rider.toArray) (y_load (by rfl) 23 _ (by rfl) g (m * 23) (by rfl) u.rider _ 8 (fun z hz => range_below T2.rider hz T2.lt) Try.underlying23 rfl size23 huo.bk.1.1) ?_
              try simp only [Act.put, List.setIfInBounds_toArray, List.set_cons_zero, List.set_cons_succ]
              refine WQ.yields (v := .bool false) (y_eq (by rfl) false 23 _ _ _ (by rfl) (t.rider).toArray (u.rider).toArray (.bool false) (by rfl) (by rfl) guard23 (eq_ii hto.bk.1 huo.bk.1 false ⟨fun e => (by cases e), fun e => ((NR.out ot ou) e).elim⟩)) ?_
              try simp only [Act.put, List.setIfInBounds_toArray, List.set_cons_zero, List.set_cons_succ]
              refine WQ.yields (v := .bool false) (Or.inl ⟨by rfl, fun z hz => ?_⟩) ?_
              · go_simp
              try simp only [Act.put, List.setIfInBounds_toArray, List.set_cons_zero, List.set_cons_succ]
              refine WQ.yields (v := .slice (some ⟨g, 0, none⟩) l.length cap) (Or.inl ⟨by rfl, fun z hz => ?_⟩) ?_
              · go_simp
              try simp only [Act.put, List.setIfInBounds_toArray, List.set_cons_zero, List.set_cons_succ]
              refine WQ.yields (v := .int .i64 j) (Or.inl ⟨by rfl, fun z hz => ?_⟩) ?_
              · go_simp
              try simp only [Act.put, List.setIfInBounds_toArray, List.set_cons_zero, List.set_cons_succ]
              refine WQ.yields (v := .pointer (some ⟨g, j * 23, none⟩)) (Or.inl ⟨by rfl, fun z hz => ?_⟩) ?_
              · go_simp
              try simp only [Act.put, List.setIfInBounds_toArray, List.set_cons_zero, List.set_cons_succ]
              refine WQ.yields (v := .pointer (some ⟨g, j * 23, none⟩)) (Or.inl ⟨by rfl, fun z hz => ?_⟩) ?_
              · go_simp
              try simp only [Act.put, List.setIfInBounds_toArray, List.set_cons_zero, List.set_cons_succ]
              refine WQ.yields (v := .pointer (some ⟨g, j * 23 + 8, none⟩)) (Or.inl ⟨by rfl, fun z hz => ?_⟩) ?_
              · go_simp
              try simp only [Act.put, List.setIfInBounds_toArray, List.set_cons_zero, List.set_cons_succ]
              refine WQ.yields (v := .agg t.driver.toArray) (y_load (by rfl) 23 _ (by rfl) g (j * 23 + 8) (by rfl) t.driver _ 8 (fun z hz => range_below T1.driver hz T1.lt) Try.underlying23 rfl size23 hto.bk.2.1) ?_
              try simp only [Act.put, List.setIfInBounds_toArray, List.set_cons_zero, List.set_cons_succ]
              refine WQ.yields (v := .slice (some ⟨g, 0, none⟩) l.length cap) (Or.inl ⟨by rfl, fun z hz => ?_⟩) ?_
              · go_simp
              try simp only [Act.put, List.setIfInBounds_toArray, List.set_cons_zero, List.set_cons_succ]
              refine WQ.yields (v := .int .i64 m) (Or.inl ⟨by rfl, fun z hz => ?_⟩) ?_
              · go_simp
              try simp only [Act.put, List.setIfInBounds_toArray, List.set_cons_zero, List.set_cons_succ]
              refine WQ.yields (v := .pointer (some ⟨g, m * 23, none⟩)) (Or.inl ⟨by rfl, fun z hz => ?_⟩) ?_
              · go_simp
              try simp only [Act.put, List.setIfInBounds_toArray, List.set_cons_zero, List.set_cons_succ]
              refine WQ.yields (v := .pointer (some ⟨g, m * 23, none⟩)) (Or.inl ⟨by rfl, fun z hz => ?_⟩) ?_
              · go_simp
              try simp only [Act.put, List.setIfInBounds_toArray, List.set_cons_zero, List.set_cons_succ]
              refine WQ.yields (v := .pointer (some ⟨g, m * 23 + 8, none⟩)) (Or.inl ⟨by rfl, fun z hz => ?_⟩) ?_
              · go_simp
              try simp only [Act.put, List.setIfInBounds_toArray, List.set_cons_zero, List.set_cons_succ]
              refine WQ.yields (v := .agg u.driver.toArray) (y_load (by rfl) 23 _ (by rfl) g (m * 23 + 8) (by rfl) u.driver _ 8 (fun z hz => range_below T2.driver hz T2.lt) Try.underlying23 rfl size23 huo.bk.2.1) ?_
              try simp only [Act.put, List.setIfInBounds_toArray, List.set_cons_zero, List.set_cons_succ]
              refine WQ.yields (v := .bool false) (y_eq (by rfl) false 23 _ _ _ (by rfl) (t.driver).toArray (u.driver).toArray (.bool false) (by rfl) (by rfl) guard23 (eq_ii hto.bk.2 huo.bk.2 false ⟨fun e => (by cases e), fun e => ((ND.out ot ou) e).elim⟩)) ?_
              try simp only [Act.put, List.setIfInBounds_toArray, List.set_cons_zero, List.set_cons_succ]
              refine WQ.yields (v := .bool false) (Or.inl ⟨by rfl, fun z hz => ?_⟩) ?_
              · go_simp
              try simp only [Act.put, List.setIfInBounds_toArray, List.set_cons_zero, List.set_cons_succ]
              refine WQ.yields (v := .bool false) (Or.inl ⟨by rfl, fun z hz => ?_⟩) ?_
              · go_simp
              try simp only [Act.put, List.setIfInBounds_toArray, List.set_cons_zero, List.set_cons_succ]
              refine WQ.yields (v := .bool false) (Or.inl ⟨by rfl, fun z hz => ?_⟩) ?_
              · go_simp
              try simp only [Act.put, List.setIfInBounds_toArray, List.set_cons_zero, List.set_cons_succ]
              refine WQ.nil ?_
              intro z hz
              clear hto huo T1 T2
              go_wp2_with fail
              go_roundg (gk - 1)
              case measure => have := HM2.out; omega
              case rel => exact ⟨m + 1, by have := HM2.out; omega, by have := HM2.out; go_num, hb.trans (hz.mono hb.size)⟩
            · have eu : u.endB = true := by
                cases he : u.endB with
                | true => rfl
                | false => exact (ou (endB_on.1 he)).elim
              refine wp_region_wq wr.heap.size wr (Below.refl _ wr) (by kernel_rfl) (by kernel_rfl) ?_
              refine WQ.yields (v := .slice (some ⟨g, 0, none⟩) l.length cap) (Or.inl ⟨by rfl, fun z hz => ?_⟩) ?_
              · go_simp
              try simp only [Act.put, List.setIfInBounds_toArray, List.set_cons_zero, List.set_cons_succ]
              refine WQ.yields (v := .int .i64 j) (Or.inl ⟨by rfl, fun z hz => ?_⟩) ?_
              · go_simp
              try simp only [Act.put, List.setIfInBounds_toArray, List.set_cons_zero, List.set_cons_succ]
              refine WQ.yields (v := .pointer (some ⟨g, j * 23, none⟩)) (Or.inl ⟨by rfl, fun z hz => ?_⟩) ?_
              · go_simp
              try simp only [Act.put, List.setIfInBounds_toArray, List.set_cons_zero, List.set_cons_succ]
              refine WQ.yields (v := .pointer (some ⟨g, j * 23, none⟩)) (Or.inl ⟨by rfl, fun z hz => ?_⟩) ?_
              · go_simp
              try simp only [Act.put, List.setIfInBounds_toArray, List.set_cons_zero, List.set_cons_succ]
              refine WQ.yields (v := .agg t.k.toArray) (y_load (by rfl) 25 _ (by rfl) g (j * 23) (by rfl) t.k _ 16 (fun z hz => range_below T1.key hz T1.lt) Try.underlying25 rfl size25 hto.k.1) ?_
              try simp only [Act.put, List.setIfInBounds_toArray, List.set_cons_zero, List.set_cons_succ]
              refine WQ.yields (v := .slice (some ⟨g, 0, none⟩) l.length cap) (Or.inl ⟨by rfl, fun z hz => ?_⟩) ?_
              · go_simp
              try simp only [Act.put, List.setIfInBounds_toArray, List.set_cons_zero, List.set_cons_succ]
              refine WQ.yields (v := .int .i64 m) (Or.inl ⟨by rfl, fun z hz => ?_⟩) ?_
              · go_simp
              try simp only [Act.put, List.setIfInBounds_toArray, List.set_cons_zero, List.set_cons_succ]
              refine WQ.yields (v := .pointer (some ⟨g, m * 23, none⟩)) (Or.inl ⟨by rfl, fun z hz => ?_⟩) ?_
              · go_simp
              try simp only [Act.put, List.setIfInBounds_toArray, List.set_cons_zero, List.set_cons_succ]
              refine WQ.yields (v := .pointer (some ⟨g, m * 23, none⟩)) (Or.inl ⟨by rfl, fun z hz => ?_⟩) ?_
              · go_simp
              try simp only [Act.put, List.setIfInBounds_toArray, List.set_cons_zero, List.set_cons_succ]
              refine WQ.yields (v := .agg u.k.toArray) (y_load (by rfl) 25 _ (by rfl) g (m * 23) (by rfl) u.k _ 16 (fun z hz => range_below T2.key hz T2.lt) Try.underlying25 rfl size25 huo.k.1) ?_
              try simp only [Act.put, List.setIfInBounds_toArray, List.set_cons_zero, List.set_cons_succ]
              refine WQ.yields (v := .bool false) (y_eq (by rfl) false 25 _ _ _ (by rfl) (t.k).toArray (u.k).toArray (.bool false) (by rfl) (by rfl) guard25 (eq_jj hto.k huo.k false ⟨fun e => (by cases e), fun e => (NK.out e).elim⟩)) ?_
              try simp only [Act.put, List.setIfInBounds_toArray, List.set_cons_zero, List.set_cons_succ]
              refine WQ.yields (v := .bool false) (Or.inl ⟨by rfl, fun z hz => ?_⟩) ?_
              · go_simp
              try simp only [Act.put, List.setIfInBounds_toArray, List.set_cons_zero, List.set_cons_succ]
              refine WQ.yields (v := .slice (some ⟨g, 0, none⟩) l.length cap) (Or.inl ⟨by rfl, fun z hz => ?_⟩) ?_
              · go_simp
              try simp only [Act.put, List.setIfInBounds_toArray, List.set_cons_zero, List.set_cons_succ]
              refine WQ.yields (v := .int .i64 j) (Or.inl ⟨by rfl, fun z hz => ?_⟩) ?_
              · go_simp
              try simp only [Act.put, List.setIfInBounds_toArray, List.set_cons_zero, List.set_cons_succ]
              refine WQ.yields (v := .pointer (some ⟨g, j * 23, none⟩)) (Or.inl ⟨by rfl, fun z hz => ?_⟩) ?_
              · go_simp
              try simp only [Act.put, List.setIfInBounds_toArray, List.set_cons_zero, List.set_cons_succ]
              refine WQ.yields (v := .agg t.cells.toArray) (y_load (by rfl) 40 _ (by rfl) g (j * 23) (by rfl) t.cells _ 23 (fun z hz => range_below T1.all hz T1.lt) Try.underlying40 rfl size40 hto.length) ?_
              try simp only [Act.put, List.setIfInBounds_toArray, List.set_cons_zero, List.set_cons_succ]
              refine WQ.calls (by rfl) (v := .bool false) (f := 18) (args := #[.agg t.cells.toArray]) (fun z hz => by go_simp) (fun z hz => gives_below hz (Nat.le_refl _) (endB_t t hto false et z)) ?_
              try simp only [Act.put, List.setIfInBounds_toArray, List.set_cons_zero, List.set_cons_succ]
              refine WQ.yields (v := .bool true) (Or.inl ⟨by rfl, fun z hz => ?_⟩) ?_
              · go_simp
              try simp only [Act.put, List.setIfInBounds_toArray, List.set_cons_zero, List.set_cons_succ]
              refine WQ.yields (v := .bool true) (Or.inl ⟨by rfl, fun z hz => ?_⟩) ?_
              · go_simp
              try simp only [Act.put, List.setIfInBounds_toArray, List.set_cons_zero, List.set_cons_succ]
              refine WQ.yields (v := .slice (some ⟨g, 0, none⟩) l.length cap) (Or.inl ⟨by rfl, fun z hz => ?_⟩) ?_
              · go_simp
              try simp only [Act.put, List.setIfInBounds_toArray, List.set_cons_zero, List.set_cons_succ]
              refine WQ.yields (v := .int .i64 m) (Or.inl ⟨by rfl, fun z hz => ?_⟩) ?_
              · go_simp
              try simp only [Act.put, List.setIfInBounds_toArray, List.set_cons_zero, List.set_cons_succ]
              refine WQ.yields (v := .pointer (some ⟨g, m * 23, none⟩)) (Or.inl ⟨by rfl, fun z hz => ?_⟩) ?_
              · go_simp
              try simp only [Act.put, List.setIfInBounds_toArray, List.set_cons_zero, List.set_cons_succ]
              refine WQ.yields (v := .agg u.cells.toArray) (y_load (by rfl) 40 _ (by rfl) g (m * 23) (by rfl) u.cells _ 23 (fun z hz => range_below T2.all hz T2.lt) Try.underlying40 rfl size40 huo.length) ?_
              try simp only [Act.put, List.setIfInBounds_toArray, List.set_cons_zero, List.set_cons_succ]
              refine WQ.calls (by rfl) (v := .bool true) (f := 18) (args := #[.agg u.cells.toArray]) (fun z hz => by go_simp) (fun z hz => gives_below hz (Nat.le_refl _) (endB_t u huo true eu z)) ?_
              try simp only [Act.put, List.setIfInBounds_toArray, List.set_cons_zero, List.set_cons_succ]
              refine WQ.yields (v := .bool false) (Or.inl ⟨by rfl, fun z hz => ?_⟩) ?_
              · go_simp
              try simp only [Act.put, List.setIfInBounds_toArray, List.set_cons_zero, List.set_cons_succ]
              refine WQ.yields (v := .bool false) (Or.inl ⟨by rfl, fun z hz => ?_⟩) ?_
              · go_simp
              try simp only [Act.put, List.setIfInBounds_toArray, List.set_cons_zero, List.set_cons_succ]
              refine WQ.yields (v := .bool false) (Or.inl ⟨by rfl, fun z hz => ?_⟩) ?_
              · go_simp
              try simp only [Act.put, List.setIfInBounds_toArray, List.set_cons_zero, List.set_cons_succ]
              refine WQ.skip (by rfl) ?_
              try simp only [Act.put, List.setIfInBounds_toArray, List.set_cons_zero, List.set_cons_succ]
              refine WQ.skip (by rfl) ?_
              try simp only [Act.put, List.setIfInBounds_toArray, List.set_cons_zero, List.set_cons_succ]
              refine WQ.skip (by rfl) ?_
              try simp only [Act.put, List.setIfInBounds_toArray, List.set_cons_zero, List.set_cons_succ]
              refine WQ.skip (by rfl) ?_
              try simp only [Act.put, List.setIfInBounds_toArray, List.set_cons_zero, List.set_cons_succ]
              refine WQ.skip (by rfl) ?_
              try simp only [Act.put, List.setIfInBounds_toArray, List.set_cons_zero, List.set_cons_succ]
              refine WQ.skip (by rfl) ?_
              try simp only [Act.put, List.setIfInBounds_toArray, List.set_cons_zero, List.set_cons_succ]
              refine WQ.skip (by rfl) ?_
              try simp only [Act.put, List.setIfInBounds_toArray, List.set_cons_zero, List.set_cons_succ]
              refine WQ.skip (by rfl) ?_
              try simp only [Act.put, List.setIfInBounds_toArray, List.set_cons_zero, List.set_cons_succ]
              refine WQ.skip (by rfl) ?_
              try simp only [Act.put, List.setIfInBounds_toArray, List.set_cons_zero, List.set_cons_succ]
              refine WQ.skip (by rfl) ?_
              try simp only [Act.put, List.setIfInBounds_toArray, List.set_cons_zero, List.set_cons_succ]
              refine WQ.skip (by rfl) ?_
              try simp only [Act.put, List.setIfInBounds_toArray, List.set_cons_zero, List.set_cons_succ]
              refine WQ.skip (by rfl) ?_
              try simp only [Act.put, List.setIfInBounds_toArray, List.set_cons_zero, List.set_cons_succ]
              refine WQ.skip (by rfl) ?_
              try simp only [Act.put, List.setIfInBounds_toArray, List.set_cons_zero, List.set_cons_succ]
              refine WQ.skip (by rfl) ?_
              try simp only [Act.put, List.setIfInBounds_toArray, List.set_cons_zero, List.set_cons_succ]
              refine WQ.skip (by rfl) ?_
              try simp only [Act.put, List.setIfInBounds_toArray, List.set_cons_zero, List.set_cons_succ]
              refine WQ.skip (by rfl) ?_
              try simp only [Act.put, List.setIfInBounds_toArray, List.set_cons_zero, List.set_cons_succ]
              refine WQ.skip (by rfl) ?_
              try simp only [Act.put, List.setIfInBounds_toArray, List.set_cons_zero, List.set_cons_succ]
              refine WQ.skip (by rfl) ?_
              try simp only [Act.put, List.setIfInBounds_toArray, List.set_cons_zero, List.set_cons_succ]
              refine WQ.skip (by rfl) ?_
              try simp only [Act.put, List.setIfInBounds_toArray, List.set_cons_zero, List.set_cons_succ]
              refine WQ.skip (by rfl) ?_
              try simp only [Act.put, List.setIfInBounds_toArray, List.set_cons_zero, List.set_cons_succ]
              refine WQ.skip (by rfl) ?_
              try simp only [Act.put, List.setIfInBounds_toArray, List.set_cons_zero, List.set_cons_succ]
              refine WQ.skip (by rfl) ?_
              try simp only [Act.put, List.setIfInBounds_toArray, List.set_cons_zero, List.set_cons_succ]
              refine WQ.skip (by rfl) ?_
              try simp only [Act.put, List.setIfInBounds_toArray, List.set_cons_zero, List.set_cons_succ]
              refine WQ.skip (by rfl) ?_
              try simp only [Act.put, List.setIfInBounds_toArray, List.set_cons_zero, List.set_cons_succ]
              refine WQ.skip (by rfl) ?_
              try simp only [Act.put, List.setIfInBounds_toArray, List.set_cons_zero, List.set_cons_succ]
              refine WQ.skip (by rfl) ?_
              try simp only [Act.put, List.setIfInBounds_toArray, List.set_cons_zero, List.set_cons_succ]
              refine WQ.skip (by rfl) ?_
              try simp only [Act.put, List.setIfInBounds_toArray, List.set_cons_zero, List.set_cons_succ]
              refine WQ.skip (by rfl) ?_
              try simp only [Act.put, List.setIfInBounds_toArray, List.set_cons_zero, List.set_cons_succ]
              refine WQ.yields (v := .bool false) (Or.inl ⟨by rfl, fun z hz => ?_⟩) ?_
              · go_simp
              try simp only [Act.put, List.setIfInBounds_toArray, List.set_cons_zero, List.set_cons_succ]
              refine WQ.yields (v := .bool false) (Or.inl ⟨by rfl, fun z hz => ?_⟩) ?_
              · go_simp
              try simp only [Act.put, List.setIfInBounds_toArray, List.set_cons_zero, List.set_cons_succ]
              refine WQ.nil ?_
              intro z hz
              clear hto huo T1 T2
              go_wp2_with fail
              go_roundg (gk - 1)
              case measure => have := HM2.out; omega
              case rel => exact ⟨m + 1, by have := HM2.out; omega, by have := HM2.out; go_num, hb.trans (hz.mono hb.size)⟩
          · have et : t.endB = true := by
              cases he : t.endB with
              | true => rfl
              | false => exact (ot (endB_on.1 he)).elim
            refine wp_region_wq wr.heap.size wr (Below.refl _ wr) (by kernel_rfl) (by kernel_rfl) ?_
            refine WQ.yields (v := .slice (some ⟨g, 0, none⟩) l.length cap) (Or.inl ⟨by rfl, fun z hz => ?_⟩) ?_
            · go_simp
            try simp only [Act.put, List.setIfInBounds_toArray, List.set_cons_zero, List.set_cons_succ]
            refine WQ.yields (v := .int .i64 j) (Or.inl ⟨by rfl, fun z hz => ?_⟩) ?_
            · go_simp
            try simp only [Act.put, List.setIfInBounds_toArray, List.set_cons_zero, List.set_cons_succ]
            refine WQ.yields (v := .pointer (some ⟨g, j * 23, none⟩)) (Or.inl ⟨by rfl, fun z hz => ?_⟩) ?_
            · go_simp
            try simp only [Act.put, List.setIfInBounds_toArray, List.set_cons_zero, List.set_cons_succ]
            refine WQ.yields (v := .pointer (some ⟨g, j * 23, none⟩)) (Or.inl ⟨by rfl, fun z hz => ?_⟩) ?_
            · go_simp
            try simp only [Act.put, List.setIfInBounds_toArray, List.set_cons_zero, List.set_cons_succ]
            refine WQ.yields (v := .agg t.k.toArray) (y_load (by rfl) 25 _ (by rfl) g (j * 23) (by rfl) t.k _ 16 (fun z hz => range_below T1.key hz T1.lt) Try.underlying25 rfl size25 hto.k.1) ?_
            try simp only [Act.put, List.setIfInBounds_toArray, List.set_cons_zero, List.set_cons_succ]
            refine WQ.yields (v := .slice (some ⟨g, 0, none⟩) l.length cap) (Or.inl ⟨by rfl, fun z hz => ?_⟩) ?_
            · go_simp
            try simp only [Act.put, List.setIfInBounds_toArray, List.set_cons_zero, List.set_cons_succ]
            refine WQ.yields (v := .int .i64 m) (Or.inl ⟨by rfl, fun z hz => ?_⟩) ?_
            · go_simp
            try simp only [Act.put, List.setIfInBounds_toArray, List.set_cons_zero, List.set_cons_succ]
            refine WQ.yields (v := .pointer (some ⟨g, m * 23, none⟩)) (Or.inl ⟨by rfl, fun z hz => ?_⟩) ?_
            · go_simp
            try simp only [Act.put, List.setIfInBounds_toArray, List.set_cons_zero, List.set_cons_succ]
            refine WQ.yields (v := .pointer (some ⟨g, m * 23, none⟩)) (Or.inl ⟨by rfl, fun z hz => ?_⟩) ?_
            · go_simp
            try simp only [Act.put, List.setIfInBounds_toArray, List.set_cons_zero, List.set_cons_succ]
            refine WQ.yields (v := .agg u.k.toArray) (y_load (by rfl) 25 _ (by rfl) g (m * 23) (by rfl) u.k _ 16 (fun z hz => range_below T2.key hz T2.lt) Try.underlying25 rfl size25 huo.k.1) ?_
            try simp only [Act.put, List.setIfInBounds_toArray, List.set_cons_zero, List.set_cons_succ]
            refine WQ.yields (v := .bool false) (y_eq (by rfl) false 25 _ _ _ (by rfl) (t.k).toArray (u.k).toArray (.bool false) (by rfl) (by rfl) guard25 (eq_jj hto.k huo.k false ⟨fun e => (by cases e), fun e => (NK.out e).elim⟩)) ?_
            try simp only [Act.put, List.setIfInBounds_toArray, List.set_cons_zero, List.set_cons_succ]
            refine WQ.yields (v := .bool false) (Or.inl ⟨by rfl, fun z hz => ?_⟩) ?_
            · go_simp
            try simp only [Act.put, List.setIfInBounds_toArray, List.set_cons_zero, List.set_cons_succ]
            refine WQ.yields (v := .slice (some ⟨g, 0, none⟩) l.length cap) (Or.inl ⟨by rfl, fun z hz => ?_⟩) ?_
            · go_simp
            try simp only [Act.put, List.setIfInBounds_toArray, List.set_cons_zero, List.set_cons_succ]
            refine WQ.yields (v := .int .i64 j) (Or.inl ⟨by rfl, fun z hz => ?_⟩) ?_
            · go_simp
            try simp only [Act.put, List.setIfInBounds_toArray, List.set_cons_zero, List.set_cons_succ]
            refine WQ.yields (v := .pointer (some ⟨g, j * 23, none⟩)) (Or.inl ⟨by rfl, fun z hz => ?_⟩) ?_
            · go_simp
            try simp only [Act.put, List.setIfInBounds_toArray, List.set_cons_zero, List.set_cons_succ]
            refine WQ.yields (v := .agg t.cells.toArray) (y_load (by rfl) 40 _ (by rfl) g (j * 23) (by rfl) t.cells _ 23 (fun z hz => range_below T1.all hz T1.lt) Try.underlying40 rfl size40 hto.length) ?_
            try simp only [Act.put, List.setIfInBounds_toArray, List.set_cons_zero, List.set_cons_succ]
            refine WQ.calls (by rfl) (v := .bool true) (f := 18) (args := #[.agg t.cells.toArray]) (fun z hz => by go_simp) (fun z hz => gives_below hz (Nat.le_refl _) (endB_t t hto true et z)) ?_
            try simp only [Act.put, List.setIfInBounds_toArray, List.set_cons_zero, List.set_cons_succ]
            refine WQ.yields (v := .bool false) (Or.inl ⟨by rfl, fun z hz => ?_⟩) ?_
            · go_simp
            try simp only [Act.put, List.setIfInBounds_toArray, List.set_cons_zero, List.set_cons_succ]
            refine WQ.yields (v := .bool false) (Or.inl ⟨by rfl, fun z hz => ?_⟩) ?_
            · go_simp
            try simp only [Act.put, List.setIfInBounds_toArray, List.set_cons_zero, List.set_cons_succ]
            refine WQ.skip (by rfl) ?_
            try simp only [Act.put, List.setIfInBounds_toArray, List.set_cons_zero, List.set_cons_succ]
            refine WQ.skip (by rfl) ?_
            try simp only [Act.put, List.setIfInBounds_toArray, List.set_cons_zero, List.set_cons_succ]
            refine WQ.skip (by rfl) ?_
            try simp only [Act.put, List.setIfInBounds_toArray, List.set_cons_zero, List.set_cons_succ]
            refine WQ.skip (by rfl) ?_
            try simp only [Act.put, List.setIfInBounds_toArray, List.set_cons_zero, List.set_cons_succ]
            refine WQ.skip (by rfl) ?_
            try simp only [Act.put, List.setIfInBounds_toArray, List.set_cons_zero, List.set_cons_succ]
            refine WQ.skip (by rfl) ?_
            try simp only [Act.put, List.setIfInBounds_toArray, List.set_cons_zero, List.set_cons_succ]
            refine WQ.yields (v := .bool false) (Or.inl ⟨by rfl, fun z hz => ?_⟩) ?_
            · go_simp
            try simp only [Act.put, List.setIfInBounds_toArray, List.set_cons_zero, List.set_cons_succ]
            refine WQ.yields (v := .bool false) (Or.inl ⟨by rfl, fun z hz => ?_⟩) ?_
            · go_simp
            try simp only [Act.put, List.setIfInBounds_toArray, List.set_cons_zero, List.set_cons_succ]
            refine WQ.skip (by rfl) ?_
            try simp only [Act.put, List.setIfInBounds_toArray, List.set_cons_zero, List.set_cons_succ]
            refine WQ.skip (by rfl) ?_
            try simp only [Act.put, List.setIfInBounds_toArray, List.set_cons_zero, List.set_cons_succ]
            refine WQ.skip (by rfl) ?_
            try simp only [Act.put, List.setIfInBounds_toArray, List.set_cons_zero, List.set_cons_succ]
            refine WQ.skip (by rfl) ?_
            try simp only [Act.put, List.setIfInBounds_toArray, List.set_cons_zero, List.set_cons_succ]
            refine WQ.skip (by rfl) ?_
            try simp only [Act.put, List.setIfInBounds_toArray, List.set_cons_zero, List.set_cons_succ]
            refine WQ.skip (by rfl) ?_
            try simp only [Act.put, List.setIfInBounds_toArray, List.set_cons_zero, List.set_cons_succ]
            refine WQ.skip (by rfl) ?_
            try simp only [Act.put, List.setIfInBounds_toArray, List.set_cons_zero, List.set_cons_succ]
            refine WQ.skip (by rfl) ?_
            try simp only [Act.put, List.setIfInBounds_toArray, List.set_cons_zero, List.set_cons_succ]
            refine WQ.skip (by rfl) ?_
            try simp only [Act.put, List.setIfInBounds_toArray, List.set_cons_zero, List.set_cons_succ]
            refine WQ.skip (by rfl) ?_
            try simp only [Act.put, List.setIfInBounds_toArray, List.set_cons_zero, List.set_cons_succ]
            refine WQ.skip (by rfl) ?_
            try simp only [Act.put, List.setIfInBounds_toArray, List.set_cons_zero, List.set_cons_succ]
            refine WQ.skip (by rfl) ?_
            try simp only [Act.put, List.setIfInBounds_toArray, List.set_cons_zero, List.set_cons_succ]
            refine WQ.skip (by rfl) ?_
            try simp only [Act.put, List.setIfInBounds_toArray, List.set_cons_zero, List.set_cons_succ]
            refine WQ.skip (by rfl) ?_
            try simp only [Act.put, List.setIfInBounds_toArray, List.set_cons_zero, List.set_cons_succ]
            refine WQ.skip (by rfl) ?_
            try simp only [Act.put, List.setIfInBounds_toArray, List.set_cons_zero, List.set_cons_succ]
            refine WQ.skip (by rfl) ?_
            try simp only [Act.put, List.setIfInBounds_toArray, List.set_cons_zero, List.set_cons_succ]
            refine WQ.skip (by rfl) ?_
            try simp only [Act.put, List.setIfInBounds_toArray, List.set_cons_zero, List.set_cons_succ]
            refine WQ.skip (by rfl) ?_
            try simp only [Act.put, List.setIfInBounds_toArray, List.set_cons_zero, List.set_cons_succ]
            refine WQ.skip (by rfl) ?_
            try simp only [Act.put, List.setIfInBounds_toArray, List.set_cons_zero, List.set_cons_succ]
            refine WQ.skip (by rfl) ?_
            try simp only [Act.put, List.setIfInBounds_toArray, List.set_cons_zero, List.set_cons_succ]
            refine WQ.skip (by rfl) ?_
            try simp only [Act.put, List.setIfInBounds_toArray, List.set_cons_zero, List.set_cons_succ]
            refine WQ.skip (by rfl) ?_
            try simp only [Act.put, List.setIfInBounds_toArray, List.set_cons_zero, List.set_cons_succ]
            refine WQ.skip (by rfl) ?_
            try simp only [Act.put, List.setIfInBounds_toArray, List.set_cons_zero, List.set_cons_succ]
            refine WQ.skip (by rfl) ?_
            try simp only [Act.put, List.setIfInBounds_toArray, List.set_cons_zero, List.set_cons_succ]
            refine WQ.skip (by rfl) ?_
            try simp only [Act.put, List.setIfInBounds_toArray, List.set_cons_zero, List.set_cons_succ]
            refine WQ.skip (by rfl) ?_
            try simp only [Act.put, List.setIfInBounds_toArray, List.set_cons_zero, List.set_cons_succ]
            refine WQ.skip (by rfl) ?_
            try simp only [Act.put, List.setIfInBounds_toArray, List.set_cons_zero, List.set_cons_succ]
            refine WQ.skip (by rfl) ?_
            try simp only [Act.put, List.setIfInBounds_toArray, List.set_cons_zero, List.set_cons_succ]
            refine WQ.yields (v := .bool false) (Or.inl ⟨by rfl, fun z hz => ?_⟩) ?_
            · go_simp
            try simp only [Act.put, List.setIfInBounds_toArray, List.set_cons_zero, List.set_cons_succ]
            refine WQ.yields (v := .bool false) (Or.inl ⟨by rfl, fun z hz => ?_⟩) ?_
            · go_simp
            try simp only [Act.put, List.setIfInBounds_toArray, List.set_cons_zero, List.set_cons_succ]
            refine WQ.nil ?_
            intro z hz
            clear hto huo T1 T2
            go_wp2_with fail
            go_roundg (gk - 1)
            case measure => have := HM2.out; omega
            case rel => exact ⟨m + 1, by have := HM2.out; omega, by have := HM2.out; go_num, hb.trans (hz.mono hb.size)⟩
        · have e : m = j := by omega
          subst e
          go_wp2_with fail
          go_roundg (l.length - (m + 1))
          case measure => have := HJ.out; omega
          case rel => exact ⟨m + 1, by have := HJ.out; omega, by have := HJ.out; go_num, hb⟩
    · have e : j = l.length := by omega
      subst e
      go_wp2_with fail
      go_ret
      exact gives_of_eq rfl hb
end Go.Proofs.Ytnooghehmgbemaa
