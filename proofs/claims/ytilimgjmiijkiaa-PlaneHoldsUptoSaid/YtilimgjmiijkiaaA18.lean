/- Contracts of the law's helpers, 18: points lent: rows of points in memory of their own, a mark behind them. -/
import Derived.Test.YtilimgjmiijkiaaA13
import Derived.Test.YtilimgjmiijkiaaA15
import Derived.Maps.AppendAt
import Derived.Deep.AppendLies
import Derived.OwnWalk
namespace Go.Proofs.Ytilimgjmiijkiaa
open Go.RowKit
attribute [local go_sem] BW.cell BW.frozen
set_option linter.unusedVariables false

theorem Try.info24 : (Try.prog.info? 24).map (fun i => (i.zero, i.size, i.bytes)) = some (some (.agg #[.int .i16 0, .int .i16 0]), 2, 4) := by kernel_rfl

/-- points as cells -/
def flat : List (Int × Int) → List Value
  | [] => []
  | p :: r => .int .i16 p.1 :: .int .i16 p.2 :: flat r

theorem flat_length : ∀ xs : List (Int × Int), (flat xs).length = xs.length * 2
  | [] => rfl
  | _ :: r => by simp only [flat, List.length_cons, flat_length r]; omega

theorem flat_one (xs : List (Int × Int)) : ∀ u ∈ flat xs, u.oneCell' = true := by
  induction xs with
  | nil => intro u hu; cases hu
  | cons p r ih =>
    intro u hu
    simp only [flat, List.mem_cons] at hu
    rcases hu with rfl | rfl | hu
    · rfl
    · rfl
    · exact ih u hu

theorem flat_get : ∀ (xs : List (Int × Int)) (i : Nat) (p : Int × Int), xs[i]? = some p → (flat xs)[i * 2]? = some (.int .i16 p.1) ∧ (flat xs)[i * 2 + 1]? = some (.int .i16 p.2)
  | [], i, p, h => by simp at h
  | q :: r, 0, p, h => by
    simp at h; subst h; exact ⟨rfl, rfl⟩
  | q :: r, i + 1, p, h => by
    have := flat_get r i p (by simpa using h)
    have e : (i + 1) * 2 = i * 2 + 1 + 1 := by omega
    rw [e]
    simpa [flat] using this

theorem flat_back : ∀ (xs : List (Int × Int)) (j : Nat) (u : Value), (flat xs)[j]? = some u → ∃ i p, xs[i]? = some p ∧ ((j = i * 2 ∧ u = .int .i16 p.1) ∨ (j = i * 2 + 1 ∧ u = .int .i16 p.2))
  | [], j, u, h => by simp [flat] at h
  | q :: r, 0, u, h => by simp [flat] at h; subst h; exact ⟨0, q, rfl, .inl ⟨rfl, rfl⟩⟩
  | q :: r, 1, u, h => by simp [flat] at h; subst h; exact ⟨0, q, rfl, .inr ⟨rfl, rfl⟩⟩
  | q :: r, j + 2, u, h => by
    obtain ⟨i, p, hp, h⟩ := flat_back r j u (by simpa [flat] using h)
    refine ⟨i + 1, p, by simpa using hp, ?_⟩
    rcases h with ⟨rfl, rfl⟩ | ⟨rfl, rfl⟩
    · exact .inl ⟨by omega, rfl⟩
    · exact .inr ⟨by omega, rfl⟩

theorem add_off (b off j : Nat) : (⟨b, off, none⟩ : Addr).add j = ⟨b, off + j, none⟩ := by
  unfold Addr.add; split
  · simp_all
  · rfl

theorem PRd.flat {w : World} {B n : Nat} {A : Option Addr} {xs : List (Int × Int)} (h : PRd w B A n xs) (hn : 0 < n) :
    ∃ b off, A = some ⟨b, off, none⟩ ∧ b < B ∧ ∀ j u, (flat xs)[j]? = some u → w.cell? ((⟨b, off, none⟩ : Addr).add j) = some u := by
  obtain ⟨b, off, rfl, hb, hc⟩ := h.2.2 hn
  refine ⟨b, off, rfl, hb, fun j u hu => ?_⟩
  obtain ⟨i, p, hp, hh⟩ := flat_back xs j u hu
  obtain ⟨c0, c1⟩ := hc i p hp
  rw [add_off]
  rcases hh with ⟨rfl, rfl⟩ | ⟨rfl, rfl⟩
  · exact c0
  · exact c1

/-- block g of w: a row of points of the call's own, with the mark behind them -/
structure Row (w : World) (g cap n : Nat) (xs : List (Int × Int)) where
  cur : Array Value
  hb : w.heap[g]? = some (.cells cur 24 (0, 0))
  hn : n + 1 ≤ cap
  hc : cap ≤ maxLen
  hs : cur.size = cap * 2
  ht : cur.toList.take ((n + 1) * 2) = flat (xs ++ [(77, -77)])
  hx : xs.length = n

theorem flat_append (xs ys : List (Int × Int)) : flat (xs ++ ys) = flat xs ++ flat ys := by
  induction xs with
  | nil => rfl
  | cons p r ih => simp [flat, ih]

section
variable {w w' : World} {g cap n : Nat} {xs : List (Int × Int)}
theorem Row.cell (h : Row w g cap n xs) (i : Nat) : w.cell? ⟨g, i, none⟩ = h.cur[i]? := cell_of_row w g i h.cur 24 (0, 0) h.hb
theorem Row.frozen (h : Row w g cap n xs) (i : Nat) : w.frozen? ⟨g, i, none⟩ = false := by
  have := h.hb
  simp [World.frozen?, this]
theorem Row.lt (h : Row w g cap n xs) : g < w.heap.size := by
  rcases Nat.lt_or_ge g w.heap.size with hlt | hge
  · exact hlt
  · have := h.hb; rw [Array.getElem?_eq_none hge] at this; cases this
theorem Row.at (h : Row w g cap n xs) {i : Nat} {p : Int × Int} (hp : (xs ++ [(77, -77)])[i]? = some p) : w.cell? ⟨g, i * 2, none⟩ = some (.int .i16 p.1) ∧ w.cell? ⟨g, i * 2 + 1, none⟩ = some (.int .i16 p.2) := by
  have hi : i < n + 1 := by
    have := (List.getElem?_eq_some_iff.1 hp).1
    rw [List.length_append, h.hx] at this; exact this
  obtain ⟨e0, e1⟩ := flat_get _ i p hp
  rw [← h.ht, List.getElem?_take_of_lt (by omega)] at e0 e1
  rw [h.cell, h.cell]
  exact ⟨by simpa using e0, by simpa using e1⟩
theorem Row.mark (h : Row w g cap n xs) : w.cell? ⟨g, n * 2, none⟩ = some (.int .i16 77) ∧ w.cell? ⟨g, n * 2 + 1, none⟩ = some (.int .i16 (-77)) := by
  have := h.at (i := n) (p := (77, -77)) (by rw [List.getElem?_append_right (by rw [h.hx]; exact Nat.le_refl _), h.hx, Nat.sub_self]; rfl)
  exact this
theorem Row.read (h : Row w g cap n xs) (hbd : ∀ p ∈ xs, -32768 ≤ p.1 ∧ p.1 ≤ 32767 ∧ -32768 ≤ p.2 ∧ p.2 ≤ 32767) : PRd w w.heap.size (some ⟨g, 0, none⟩) n xs := by
  refine ⟨h.hx, hbd, fun _ => ⟨g, 0, rfl, h.lt, fun i p hp => ?_⟩⟩
  have := h.at (i := i) (p := p) (by rw [List.getElem?_append_left (List.getElem?_eq_some_iff.1 hp).1]; exact hp)
  rw [Nat.zero_add]
  exact this
def Row.below (h : Row w g cap n xs) {B : Nat} (hb : Below B w w') (hg : g < B) : Row w' g cap n xs := ⟨h.cur, (hb.block g hg).trans h.hb, h.hn, h.hc, h.hs, h.ht, h.hx⟩
end

theorem Row.of_own {w : World} {base g cap n : Nat} {xs : List (Int × Int)} (h : w.ownsRow base 24 2 (.slice (some ⟨g, 0, none⟩) (n + 1) cap) (n + 1) (flat xs ++ [.int .i16 77, .int .i16 (-77)])) (hx : xs.length = n) :
    base ≤ g ∧ Nonempty (Row w g cap n xs) := by
  rcases h.2 with ⟨h0, _⟩ | ⟨g', cap', cur, hv, hb, hg, hn, hc, hs, ht⟩
  · cases h0
  · injection hv with e1 e2 e3
    subst e3
    injection e1 with e1
    injection e1 with e1
    subst e1
    exact ⟨hb, ⟨⟨cur, hg, hn, hc, hs, by rw [ht, flat_append]; rfl, hx⟩⟩⟩

theorem grown_below {w w' : World} {B : Nat} {row : Option Nat} (h : w.grownBy w' row) (hr : ∀ g, row = some g → B ≤ g) (hB : B ≤ w.heap.size) : Below B w w' :=
  ⟨h.os, h.tape, h.output, h.size, fun k hk => h.block k (by omega) (fun e => by have := hr k e.symm; omega)⟩

theorem mark_one : ∀ u ∈ [Value.int .i16 77, Value.int .i16 (-77)], u.oneCell' = true := by
  intro u hu; simp at hu; rcases hu with rfl | rfl <;> rfl

/-- what lent gives -/
def Lent (w : World) (n : Nat) (xs : List (Int × Int)) : Ending → World → Prop := fun e w' =>
  ∃ g cap, e = .returned (.slice (some ⟨g, 0, none⟩) n cap) ∧ w.heap.size ≤ g ∧ Nonempty (Row w' g cap n xs) ∧ Below w.heap.size w w'

set_option maxHeartbeats 1000000 in
theorem lent_some (A : Option Addr) (n c : Nat) (xs : List (Int × Int)) (w : World) (h : PRd w w.heap.size A n xs) (hn : 0 < n) (hm : n ≤ 1048576) (hc : n ≤ c) :
    Calls Try.prog 26 #[.slice A n c] w (Lent w n xs) := by
  obtain ⟨b, off, rfl, hb, hnews⟩ := h.flat hn
  obtain ⟨i0, hi, hz0, hz1, hz2⟩ := info_parts Try.info24
  have hx := h.1
  clear h
  go_enter Try.func26, Try.ntmps26
  go_wp2_with (first
    | (at_builtin; (refine wpList_append_lies _ rfl _ _ 30 (by rfl) w.heap.size 24 i0 (.agg #[.int .i16 0, .int .i16 0]) 2 4 Try.underlying30 hi hz0 hz1 hz2 rfl (by decide) _ n (flat xs) (by rfl) (hown.alloc _) ⟨w1.heap.size, 0, none⟩ 1 1 [.int .i16 77, .int .i16 (-77)] (by rfl) rfl (World.news_of_block (heap_alloc_new w1 _)) mark_one (by decide) (by unfold maxLen; omega) (by omega) (Nat.le_trans hgrow.size (by simp)) (w1.heap.size + 1) (by simp) ?_); intro g2 cap2 w2 hown2 hgrow2 hat2 hlt2; obtain ⟨hg2, hrow⟩ := Row.of_own (n := n) hown2 hx; obtain ⟨hrow⟩ := hrow; have hcap := hrow.hn; have hcap2 := hrow.hc)
    | (at_builtin; refine wpList_append_lies _ rfl _ _ 30 (by rfl) w.heap.size 24 i0 (.agg #[.int .i16 0, .int .i16 0]) 2 4 Try.underlying30 hi hz0 hz1 hz2 rfl (by decide) (.slice none 0 0) 0 [] (by rfl) ⟨rfl, .inl ⟨rfl, rfl⟩⟩ ⟨b, off, none⟩ n c (flat xs) (by rfl) ((flat_length xs).trans (by rw [hx])) hnews (flat_one xs) hn (by unfold maxLen; omega) (by omega) (Nat.le_refl _) w.heap.size rfl ?_; intro g cap w1 hown hgrow hat hlt; rw [Nat.zero_add, List.nil_append] at hown))
  go_ret
  refine ⟨g2, cap2, rfl, hg2, ⟨hrow⟩, ?_⟩
  have e : g = w.heap.size := hat.resolve_left (by simp [Value.ownBlock])
  exact (grown_below hgrow (fun _ h => by cases h) (Nat.le_refl _)).trans (((Below.refl _ w1).alloc hgrow.size _).trans (grown_below hgrow2 (fun k h => by simp [Value.ownBlock] at h; omega) (Nat.le_trans hgrow.size (by simp))))

theorem append_none (A : Option Addr) (c : Nat) (w : World) : (Builtin.append_ #[30, 30] 30 #[.slice none 0 0, .slice A 0 c]).run Try.prog w = .ok (.slice none 0 0) w := by
  obtain ⟨i0, hi, hz0, hz1, hz2⟩ := info_parts Try.info24
  cases A <;> simp [Builtin.append_, run_underlying Try.underlying30, sizeOf, typeInfo, hi, Builtin.lenOf, Builtin.firstCells, loadCells, loadCellsFrom]

/-- An append whose run is known. -/
theorem wpList_append_run {P : Program} {w : World} {ops : Array Oper} {rest : List Oper} {o : Oper} {a : Act} {Q : Exit → Act → World → Prop} (hgd : o.guard = none) (s x : Operand) (t : TypeId)
    (ho : o.op = .call { callee := .builtin .append, args := #[s, x], argTypes := #[t, t] }) (u v r : Value) (hs : a.eval s = u) (hx : a.eval x = v)
    (hrun : (Builtin.append_ #[t, t] o.type #[u, v]).run P w = .ok r w) (h : wpList P ops Q rest (a.put o.dst r) w) : wpList P ops Q (o :: rest) a w :=
  wpList_plain hgd fun _ hK => by
    unfold Oper.wp execOp
    simp only [ho, resolve, invoke, builtin, Sem.run_bind, Sem.run_pure, Result.andThen_ok, List.map_toArray, List.map_cons, List.map_nil, hs, hx, hrun]
    exact hK _ _ h

set_option maxHeartbeats 1000000 in
theorem lent_none (A : Option Addr) (c : Nat) (w : World) : Calls Try.prog 26 #[.slice A 0 c] w (Lent w 0 []) := by
  obtain ⟨i0, hi, hz0, hz1, hz2⟩ := info_parts Try.info24
  have HA := append_none A c
  go_enter Try.func26, Try.ntmps26
  go_wp2_with (first | (at_builtin; refine wpList_append_run rfl _ _ 30 (by rfl) (.slice none 0 0) (.slice A 0 c) (.slice none 0 0) (by rfl) (by rfl) (HA _) ?_; clear HA) | (at_builtin; refine wpList_append_lies _ rfl _ _ 30 (by rfl) w.heap.size 24 i0 (.agg #[.int .i16 0, .int .i16 0]) 2 4 Try.underlying30 hi hz0 hz1 hz2 rfl (by decide) (.slice none 0 0) 0 [] (by rfl) ⟨rfl, .inl ⟨rfl, rfl⟩⟩ ⟨w.heap.size, 0, none⟩ 1 1 [.int .i16 77, .int .i16 (-77)] (by rfl) rfl (World.news_of_block (heap_alloc_new w _)) mark_one (by decide) (by unfold maxLen; omega) (by omega) (by simp) (w.heap.size + 1) (by simp) ?_; intro g2 cap2 w2 hown2 hgrow2 hat2 hlt2; obtain ⟨hg2, hrow⟩ := Row.of_own (n := 0) (xs := []) hown2 rfl; obtain ⟨hrow⟩ := hrow; have hcap := hrow.hn; have hcap2 := hrow.hc))
  go_ret
  exact ⟨g2, cap2, rfl, hg2, ⟨hrow⟩, ((Below.refl _ w).alloc (Nat.le_refl _) _).trans (grown_below hgrow2 (fun k h => by simp [Value.ownBlock] at h) (by simp))⟩

theorem lent_any (A : Option Addr) (n c : Nat) (xs : List (Int × Int)) (w : World) (h : PRd w w.heap.size A n xs) (hm : n ≤ 1048576) (hc : n ≤ c) :
    Calls Try.prog 26 #[.slice A n c] w (Lent w n xs) := by
  rcases Nat.eq_zero_or_pos n with h0 | h0
  · subst h0
    have e : xs = [] := List.eq_nil_of_length_eq_zero h.1
    subst e
    exact lent_none A c w
  · exact lent_some A n c xs w h h0 hm hc
end Go.Proofs.Ytilimgjmiijkiaa
