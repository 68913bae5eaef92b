/- Trip: a trip more; laws for Assign. -/
import Derived.Test.YtnooghehmgbemaaGreatB12
namespace Go.Proofs.YtnooghehmgbemaaGreat
open Go.RowKit
set_option linter.unusedVariables false
set_option linter.unusedSimpArgs false

def newTr (k : List Value) (tick : Int) : Tr := ⟨k, 1, [-1, tick, -1, -1, -1, -1]⟩
section
variable {q : St} {k : List Value} {tick : Int}
theorem new_on : (newTr k tick).on := ⟨by simp [newTr], by simp [newTr]⟩
theorem new_okT (hk : Bs 16 k) (h0 : 0 ≤ tick) (h1 : tick ≤ 1099511627776) : (newTr k tick).ok where
  k := hk
  s := (by decide : (Lit.int .u8 1).wf = true)
  n := rfl
  ts := fun x hx => by
    simp only [newTr, List.mem_cons, List.not_mem_nil, or_false] at hx
    rcases hx with rfl | rfl | rfl | rfl | rfl | rfl
    · decide
    · exact wf64 h0 h1
    all_goals decide
theorem f1_push (hno : ∀ t ∈ q.l, t.k ≠ k) : ∀ x v, putF (f1 q.l) (.agg k.toArray) (.agg (newTr k tick).cells.toArray) x v ↔ f1 (q.l ++ [newTr k tick]) x v := by
  intro x v
  constructor
  · rintro (⟨rfl, rfl⟩ | ⟨hx, u, hu, rfl, rfl⟩)
    · exact ⟨_, List.mem_append_right _ (List.mem_singleton.2 rfl), rfl, rfl⟩
    · exact ⟨u, List.mem_append_left _ hu, rfl, rfl⟩
  · rintro ⟨u, hu, rfl, rfl⟩
    rcases List.mem_append.1 hu with h | h
    · exact .inr ⟨fun e => hno u h (agg_inj.1 e), u, h, rfl, rfl⟩
    · rw [List.mem_singleton.1 h]; exact .inl ⟨rfl, rfl⟩
theorem f2_push (hno : ∀ t ∈ q.l, t.on → t.rider ≠ k.take 8) : ∀ x v, putF (f2 q.l) (.agg (k.take 8).toArray) (.agg k.toArray) x v ↔ f2 (q.l ++ [newTr k tick]) x v := by
  intro x v
  constructor
  · rintro (⟨rfl, rfl⟩ | ⟨hx, u, hu, ho, rfl, rfl⟩)
    · exact ⟨_, List.mem_append_right _ (List.mem_singleton.2 rfl), new_on, rfl, rfl⟩
    · exact ⟨u, List.mem_append_left _ hu, ho, rfl, rfl⟩
  · rintro ⟨u, hu, ho, rfl, rfl⟩
    rcases List.mem_append.1 hu with h | h
    · exact .inr ⟨fun e => hno u h ho (agg_inj.1 e), u, h, ho, rfl, rfl⟩
    · rw [List.mem_singleton.1 h]; exact .inl ⟨rfl, rfl⟩
theorem f3_push (hno : ∀ t ∈ q.l, t.on → t.driver ≠ k.drop 8) : ∀ x v, putF (f3 q.l) (.agg (k.drop 8).toArray) (.agg k.toArray) x v ↔ f3 (q.l ++ [newTr k tick]) x v := by
  intro x v
  constructor
  · rintro (⟨rfl, rfl⟩ | ⟨hx, u, hu, ho, rfl, rfl⟩)
    · exact ⟨_, List.mem_append_right _ (List.mem_singleton.2 rfl), new_on, rfl, rfl⟩
    · exact ⟨u, List.mem_append_left _ hu, ho, rfl, rfl⟩
  · rintro ⟨u, hu, ho, rfl, rfl⟩
    rcases List.mem_append.1 hu with h | h
    · exact .inr ⟨fun e => hno u h ho (agg_inj.1 e), u, h, ho, rfl, rfl⟩
    · rw [List.mem_singleton.1 h]; exact .inl ⟨rfl, rfl⟩
theorem St.ok.push (hq : q.ok) (hk : Bs 16 k) (h0 : 0 ≤ tick) (h1 : tick ≤ 1099511627776) (n1 : ∀ t ∈ q.l, t.k ≠ k) (n2 : ∀ t ∈ q.l, t.on → t.rider ≠ k.take 8) (n3 : ∀ t ∈ q.l, t.on → t.driver ≠ k.drop 8) : St.ok ⟨tick, q.l ++ [newTr k tick]⟩ where
  c0 := h0
  c1 := h1
  ok := fun u hu => by
    rcases List.mem_append.1 hu with h | h
    · exact hq.ok u h
    · rw [List.mem_singleton.1 h]; exact new_okT hk h0 h1
  dk := List.pairwise_append.2 ⟨hq.dk, by simp, fun a ha b hb => by rw [List.mem_singleton.1 hb]; exact n1 a ha⟩
  dr := List.pairwise_append.2 ⟨hq.dr, by simp, fun a ha b hb oa _ => by rw [List.mem_singleton.1 hb]; exact n2 a ha oa⟩
  dd := List.pairwise_append.2 ⟨hq.dd, by simp, fun a ha b hb oa _ => by rw [List.mem_singleton.1 hb]; exact n3 a ha oa⟩
end
theorem list16 {α : Type} {k : List α} (h : k.length = 16) : ∃ a0 a1 a2 a3 a4 a5 a6 a7 a8 a9 a10 a11 a12 a13 a14 a15, k = [a0, a1, a2, a3, a4, a5, a6, a7, a8, a9, a10, a11, a12, a13, a14, a15] := by
  match k, h with
  | [a0, a1, a2, a3, a4, a5, a6, a7, a8, a9, a10, a11, a12, a13, a14, a15], _ => exact ⟨a0, a1, a2, a3, a4, a5, a6, a7, a8, a9, a10, a11, a12, a13, a14, a15, rfl⟩
theorem build40k {k : List Value} (hk : Bs 16 k) (u : World) : (Instr.build 83 #[(0, .agg k.toArray), (1, .int .u8 1)]).run Tryz.prog u = .ok (.agg (Tr.cells ⟨k, 1, [0, 0, 0, 0, 0, 0]⟩).toArray) u := by
  obtain ⟨a0, a1, a2, a3, a4, a5, a6, a7, a8, a9, a10, a11, a12, a13, a14, a15, rfl⟩ := list16 hk.1
  kernel_rfl
section
variable {P : Program} {ops : Array Oper} {rest : List Oper} {o : Oper} {a : Act} {w : World} {K : Act → World → Prop} {Q : Exit → Act → World → Prop} {S : World → Prop}
theorem wpList_build2 (hgd : o.guard = none) (t : TypeId) (x y : Operand) (ho : o.op = .build t #[(0, x), (1, y)]) (xv yv z : Value) (hx : a.eval x = xv) (hy : a.eval y = yv) (hb : ∀ u : World, (Instr.build t #[(0, xv), (1, yv)]).run P u = .ok z u) (h : wpList P ops Q rest (a.put o.dst z) w) : wpList P ops Q (o :: rest) a w := by
  refine wpList_plain hgd fun _ hK => ?_
  unfold Oper.wp execOp
  simp only [ho, List.map_toArray, List.map_cons, List.map_nil, hx, hy, Sem.run_bind, Sem.run_pure, hb w, Result.andThen_ok]
  exact hK _ _ h
theorem run_load1 {p : Addr} {ty e : TypeId} {v : Value} (hu : P.underlying ty = some (.slice e)) (hc : w.cell? p = some v) : (loadVar ty p).run P w = .ok v w := by
  have e : (isAgg ty).run P w = .ok false w := by simp [isAgg, run_underlying hu, Result.andThen]
  simp [loadVar, e, hc, go_sem]
theorem wp_load1 (ty e : TypeId) (x : Operand) (ho : o.op = .load ty x) (p : Addr) (hx : a.eval x = .pointer (some p)) (v : Value) (hu : P.underlying ty = some (.slice e)) (hc : w.cell? p = some v) (h : K (a.put o.dst v) w) : o.wp P a w K Q := by
  unfold Oper.wp execOp
  simp only [ho, hx, Instr.loadAt, Instr.sureAddr, Sem.run_bind, Sem.run_pure, Result.andThen_ok, run_load1 hu hc]
  exact h
end
theorem times_step {j : Nat} (hj : j < 6) : (List.replicate j (-1 : Int) ++ List.replicate (6 - j) 0).set j (-1) = List.replicate (j + 1) (-1) ++ List.replicate (6 - (j + 1)) 0 := by
  obtain rfl | rfl | rfl | rfl | rfl | rfl : j = 0 ∨ j = 1 ∨ j = 2 ∨ j = 3 ∨ j = 4 ∨ j = 5 := by omega
  all_goals rfl
theorem cells_times {k : List Value} (hk : Bs 16 k) (s : Int) (ts : List Int) (n : Nat) (x : Int) : (Tr.cells ⟨k, s, ts⟩).toArray.setIfInBounds (17 + n) (.int .i64 x) = (Tr.cells ⟨k, s, ts.set n x⟩).toArray := by
  rw [List.setIfInBounds_toArray, Tr.cells, List.set_append_right _ _ (by simp only [hk.1]; omega), Tr.cells]
  simp only [hk.1]
  rw [show 17 + n - 16 = n + 1 by omega, List.set_cons_succ, List.map_set]
end Go.Proofs.YtnooghehmgbemaaGreat
