/- TripPlays: the reference: List. -/
import Derived.Test.YtnooghehmgbemaaGreatP3
import Derived.Deep.AppendLies
import Derived.OwnWalk
namespace Go.Proofs.YtnooghehmgbemaaGreat
open Go.RowKit
set_option linter.unusedVariables false
set_option linter.unusedSimpArgs false

theorem append_none (A : Option Addr) (c : Nat) (w : World) : (Builtin.append_ #[64, 64] 64 #[.slice none 0 0, .slice A 0 c]).run Tryz.prog w = .ok (.slice none 0 0) w := by
  obtain ⟨i0, hi, hz0, hz1, hz2⟩ := info_parts info40
  cases A <;> simp [Builtin.append_, run_underlying Tryz.underlying64, sizeOf, typeInfo, hi, Builtin.lenOf, Builtin.firstCells, loadCells, loadCellsFrom]
/-- An append whose run is known. -/
theorem wpList_append_run {P : Program} {w : World} {ops : Array Oper} {rest : List Oper} {o : Oper} {a : Act} {Q : Exit → Act → World → Prop} (hgd : o.guard = none) (s x : Operand) (t : TypeId)
    (ho : o.op = .call { callee := .builtin .append, args := #[s, x], argTypes := #[t, t] }) (u v r : Value) (hs : a.eval s = u) (hx : a.eval x = v)
    (hrun : (Builtin.append_ #[t, t] o.type #[u, v]).run P w = .ok r w) (h : wpList P ops Q rest (a.put o.dst r) w) : wpList P ops Q (o :: rest) a w :=
  wpList_plain hgd fun _ hK => by
    unfold Oper.wp execOp
    simp only [ho, resolve, invoke, builtin, Sem.run_bind, Sem.run_pure, Result.andThen_ok, List.map_toArray, List.map_cons, List.map_nil, hs, hx, hrun]
    exact hK _ _ h
theorem flat_one {l : List Tr} (ok : ∀ t ∈ l, t.ok) : ∀ u ∈ (l.map Tr.cells).flatMap id, u.oneCell' = true := fun u hu => by
  obtain ⟨x, hx, hu⟩ := List.mem_flatMap.1 hu
  obtain ⟨t, ht, rfl⟩ := List.mem_map.1 hx
  exact (ok t ht).one u hu
set_option maxHeartbeats 4000000 in
theorem ref_list {F : Nat → Prop} {w : World} {rb : Nat} {q : St} (hA : RefAt F w rb q) (hq : q.ok) (hn : q.l.length ≤ 1048576) : Calls Tryz.prog 11 #[.pointer (some ⟨rb, 0, none⟩)] w fun e w' => ∃ v, e = .returned v ∧ Below w.heap.size w w' ∧ w'.ownsRow w.heap.size 83 23 v q.l.length ((q.l.map Tr.cells).flatMap id) := by
  obtain ⟨hF, v, h⟩ := hA
  have c0 := h.c.1
  have HRow := Lib.hid h.row
  by_cases h0 : q.l.length = 0
  · obtain ⟨A, cap, rfl⟩ : ∃ A cap, v = .slice A 0 cap := by
      rcases h.row.2 with ⟨e, _⟩ | ⟨g, cap, cur, e, _⟩
      · exact ⟨none, 0, e⟩
      · rw [h0] at e; exact ⟨_, cap, e⟩
    have HA := append_none A cap
    have H0 := Lib.hid h0
    clear h h0
    go_enter Tryz.func11, Tryz.ntmps11
    go_wp2_with (first | (at_builtin; refine wpList_append_run rfl _ _ 64 (by rfl) (.slice none 0 0) (.slice A 0 cap) (.slice none 0 0) (by rfl) (by rfl) (HA _) ?_; clear HA))
    go_ret
    have e0 := List.eq_nil_of_length_eq_zero H0.out
    exact ⟨_, rfl, Below.refl _ w, by rw [e0]; exact ⟨rfl, .inl ⟨rfl, rfl⟩⟩⟩
  · obtain ⟨g, cap, cur, rfl, _, h1, _, _, _, h2⟩ := h.row.2.resolve_left (fun e => h0 e.2)
    have hnews := World.news_of_block h1
    have HN : Hid (∀ (j : Nat) (u : Value), ((q.l.map Tr.cells).flatMap id)[j]? = some u → w.cell? ((⟨g, 0, none⟩ : Addr).add j) = some u) := Lib.hid (fun j u hu => by
      rw [← h2] at hu
      have hj : j < q.l.length * 23 := by
        have := (List.getElem?_eq_some_iff.1 hu).1
        rw [List.length_take] at this; omega
      rw [List.getElem?_take_of_lt hj] at hu
      exact hnews j u hu)
    have HONE := Lib.hid (flat_one hq.ok)
    have HLEN := Lib.hid h.row.1
    have H0 : 0 < q.l.length := by omega
    obtain ⟨i0, hi0, hi1, hi2, hi3⟩ := info_parts info40
    clear h h0 h1 h2 hnews
    go_enter Tryz.func11, Tryz.ntmps11
    go_wp2_with (first | (at_builtin; refine wpList_append_lies _ rfl _ _ 64 (by rfl) w.heap.size 83 i0 (.agg Z40) 23 72 Tryz.underlying64 hi0 hi1 hi2 hi3 rfl (by decide) (.slice none 0 0) 0 [] (by rfl) ⟨rfl, .inl ⟨rfl, rfl⟩⟩ ⟨g, 0, none⟩ q.l.length cap _ (by rfl) HLEN.out HN.out HONE.out H0 (by simp only [maxLen]; omega) (by omega) (Nat.le_refl _) _ rfl ?_; intro g2 cap2 w2 hrow2 hgrow2 hat2 hlt2))
    go_ret
    rw [Nat.zero_add, List.nil_append] at hrow2
    exact ⟨_, rfl, Below.grownBy (Below.refl _ w) hgrow2 (fun q hq => by simp [Value.ownBlock] at hq) (Nat.le_refl _), hrow2⟩
end Go.Proofs.YtnooghehmgbemaaGreat
