/- Top: from contract to row; what came in, opened. -/
import Derived.Test.YtikjelkehcnjmaaW23
import Derived.Deep.Slices
import Derived.Deep.Strs
import Derived.JoinedCond
import Derived.ProofKit
import Derived.Lib.SmallJoins
import Derived.Carry
namespace Go.Proofs.Ytikjelkehcnjmaa
open Go.ChangeShapes Go.WideShapes Go.ChangeAt Go.RowKit
set_option linter.unusedVariables false
set_option linter.unusedSimpArgs false
theorem Try.own : ownKnob Try.prog.godebug = none := by kernel_rfl
theorem Try.laidOut : laidOutB Try.prog = true := by kernel_rfl
theorem trodAll_below {H : Type} {enc : TypeId × Value → H} {W W' : World} (hb : Below W.heap.size W W') :
    ∀ (ts : List TypeId) (vs : List Value) (ds : List (DataW H)) (ps : List MemPlace), (∀ t ∈ ts, Try.prog.readableRec t = true ∧ t < Try.prog.types.size) → (∀ x ∈ ps, x.block < W.heap.size) →
      DataW.TrodAll enc Try.prog W 0 (fun _ => true) true ts vs ds ps → DataW.TrodAll enc Try.prog W' 0 (fun b => decide (b < W.heap.size)) true ts vs ds ps
  | [], [], [], _, _, _, h => h
  | t :: ts, v :: vs, d :: ds, ps, ht, hlt, h => by
    obtain ⟨p, q, h1, h2, rfl⟩ := h
    exact ⟨p, q, Below.trod Try.laidOut (ht t (List.mem_cons_self ..)).1 (ht t (List.mem_cons_self ..)).2 h1 hb (fun x hx => hlt x (List.mem_append.2 (.inl hx))),
      trodAll_below hb ts vs ds q (fun t' ht' => ht t' (List.mem_cons_of_mem _ ht')) (fun x hx => hlt x (List.mem_append.2 (.inr hx))) h2, rfl⟩
  | [], _ :: _, _, _, _, _, h => h.elim
  | [], [], _ :: _, _, _, _, h => h.elim
  | _ :: _, [], _, _, _, _, h => h.elim
  | _ :: _, _ :: _, [], _, _, _, h => h.elim

/-- What a row asks behind the call. -/
theorem law_post {H : Type} {enc : TypeId × Value → H} {fn : Func} {s : ChangeSpec} {W W' : World} {args : Array Value} {ds gs : List (DataW H)} {before : List MemPlace}
    (hW : DataW.Whole enc Try.prog fn.params.toList s.vars false W args.toList ds gs before) (hv : s.vars = [])
    (hs : s.fn H (ds ++ gs) = { results := [.lit (.bool true)], args := ds }) (hr : fn.resultTypes = #[4])
    (hreads : (fn.params.toList.all fun t => Try.prog.readableRec t && decide (t < Try.prog.types.size)) = true) (hb : Below W.heap.size W W') :
    s.post enc Try.prog fn false true false false W args (.bool true) W' := by
  have hW' := hW
  obtain ⟨p, q, hA, hV, rfl, hfz, hnd⟩ := hW
  rw [hv] at hV
  have hlt : ∀ x ∈ p ++ q, x.block < W.heap.size := fun x hx => hW'.lt x hx
  have hreads' : ∀ t ∈ fn.params.toList, Try.prog.readableRec t = true ∧ t < Try.prog.types.size := fun t ht => by
    have h := List.all_eq_true.1 hreads t ht
    simp only [Bool.and_eq_true, decide_eq_true_eq] at h
    exact h
  refine ⟨ds, gs, p ++ q, [], p, q, hW', ?_, ?_, ?_, hb.frame _, fun h => by cases h⟩
  · rw [hs, hr]
    exact trodAll_mk1 (shut_bool Try.underlying4 true)
  · rw [hs]
    exact trodAll_below hb _ _ _ _ hreads' (fun x hx => hlt x (List.mem_append.2 (.inl hx))) hA
  · rw [hs, hv]
    cases gs with
    | nil => exact hV
    | cons g gs => exact hV.elim

theorem rows_cells {α : Type} [Inhabited α] (cells : α → List Value) (ok : α → Prop) {T E : TypeId} {size : Nat} (hu : Try.prog.underlying T = some (.slice E)) (hC : Try.prog.cellsOf E = size) (h0 : 0 < size) (hz : ∀ a, (cells a).length = size)
    {H : Type} {enc : TypeId × Value → H} {W : World} {base : Nat} {held : Bool} {sp : Nat → Bool} {fuel : Nat} {cs0 : List Value} {x0 : DataW H × List MemPlace}
    (hE : ∀ (fuel : Nat) (cs : List Value) (x : DataW H × List MemPlace), DataW.trod enc Try.prog W base sp held fuel E cs = some x → ∃ a, cs = cells a ∧ ok a)
    (hf : DataW.trod enc Try.prog W base sp held fuel T cs0 = some x0) :
    ∃ A n c xs, cs0 = [.slice A n c] ∧ n ≤ 9223372036854775807 ∧ Rd cells size W W.heap.size A n xs ∧ (∀ x ∈ xs, ok x) := by
  rcases Go.Deep.open_slice hu hf with ⟨h0, _⟩ | ⟨a, n, c, m, k, D, Pl, hcs, hb, hl, hm, hmm, hx, hi⟩
  · exact ⟨none, 0, 0, [], h0, by decide, ⟨rfl, fun h => absurd h (by omega)⟩, (by intro p hp; cases hp)⟩
  · have hle : n ≤ m := by rw [hmm]; split <;> omega
    have hmx : n ≤ 9223372036854775807 := by unfold maxLen at hm; omega
    have key : ∀ i, i < n → ∃ p : α, ok p ∧ ∀ (j : Nat) (v : Value), (cells p)[j]? = some v → W.cell? ((a.add (i * size)).add j) = some v := fun i hi' => by
      obtain ⟨cs', hc, ht⟩ := hi i (by omega)
      rw [hC] at hc
      obtain ⟨x, rfl, hok⟩ := hE _ _ _ ht
      obtain ⟨_, _, hat⟩ := World.cells?_some hc
      refine ⟨x, hok, fun j v hv => ?_⟩
      have hj : j < size := by rw [← hz x]; exact (List.getElem?_eq_some_iff.1 hv).1
      rw [hat j hj]
      simpa using hv
    obtain ⟨f, hfn⟩ : ∃ f : Nat → α, ∀ i, i < n → ok (f i) ∧ ∀ (j : Nat) (v : Value), (cells (f i))[j]? = some v → W.cell? ((a.add (i * size)).add j) = some v :=
      ⟨fun i => if h : i < n then (key i h).choose else default, fun i h => by simp only [dif_pos h]; exact (key i h).choose_spec⟩
    clear key
    refine ⟨some a, n, c, (List.range n).map f, hcs, hmx, ⟨by simp, fun hn => ?_⟩, ?_⟩
    · have hc0 : ∃ v0, (cells (f 0))[0]? = some v0 := ⟨_, List.getElem?_eq_getElem (by rw [hz]; exact h0)⟩
      obtain ⟨v0, hv0⟩ := hc0
      have h00 := (hfn 0 hn).2 0 v0 hv0
      obtain ⟨b, off, spot⟩ := a
      have hspot : spot = none := by
        simpa [Addr.add] using World.cell?_spot h00
      subst hspot
      refine ⟨b, off, rfl, ?_, fun i p hp j v hv => ?_⟩
      · rw [Go.WideShapes.add_plain, Go.WideShapes.add_plain] at h00
        rcases Nat.lt_or_ge b W.heap.size with hlt | hge
        · exact hlt
        · simp [World.cell?, Array.getElem?_eq_none hge] at h00
      · have hi2 : i < n := by
          have := (List.getElem?_eq_some_iff.1 hp).1
          simpa using this
        rw [List.getElem?_map, List.getElem?_range hi2] at hp
        simp only [Option.map_some] at hp
        injection hp with hp
        subst hp
        have := (hfn i hi2).2 j v hv
        rw [Go.WideShapes.add_plain, Go.WideShapes.add_plain] at this
        exact this
    · intro p hp
      obtain ⟨i, hi1, rfl⟩ := List.mem_map.1 hp
      exact (hfn i (List.mem_range.1 hi1)).1
instance : Inhabited Ed := ⟨E0⟩
instance : Inhabited Pr := ⟨⟨0, 0⟩⟩
section
variable {H : Type} {enc : TypeId × Value → H} {W : World} {base : Nat} {v : Value} {d : DataW H} {ps : List MemPlace} {r : Reach} {b0 : Nat} {held : Bool} {sp : Nat → Bool}
theorem int_cells {fuel : Nat} {cs : List Value} {x : DataW H × List MemPlace} (h : DataW.trod enc Try.prog W base sp held fuel 3 cs = some x) : ∃ n : Int, cs = iint n ∧ (-9223372036854775808 ≤ n ∧ n ≤ 9223372036854775807) := by
  obtain ⟨n, e, _, w⟩ := DataW.trod_int Try.underlying3 h
  exact ⟨n, e, bounds_i64 w⟩
theorem ed_cells {fuel : Nat} {cs : List Value} {x : DataW H × List MemPlace} (h : DataW.trod enc Try.prog W base sp held fuel 52 cs = some x) : ∃ e : Ed, cs = e.cells ∧ True := by
  obtain ⟨y0, y1, y2, n, _, hl, h0, h1, h2⟩ := Go.Deep.trod_struct3 Try.underlying52 h
  have hc : Try.prog.cellsOf 52 = 3 := by kernel_rfl
  have hc1 : Try.prog.cellsOf 3 = 1 := by kernel_rfl
  rw [hc] at hl
  simp only [hc1] at h0 h1 h2
  obtain ⟨a0, e0, _⟩ := int_cells h0
  obtain ⟨a1, e1, _⟩ := int_cells h1
  obtain ⟨a2, e2, _⟩ := int_cells h2
  match cs, hl with
  | [c0, c1, c2], _ =>
    simp [iint] at e0 e1 e2
    subst e0 e1 e2
    exact ⟨⟨a0, a1, a2⟩, rfl, trivial⟩
theorem pr_cells {fuel : Nat} {cs : List Value} {x : DataW H × List MemPlace} (h : DataW.trod enc Try.prog W base sp held fuel 50 cs = some x) : ∃ e : Pr, cs = e.cells ∧ True := by
  obtain ⟨y0, y1, n, _, hl, h0, h1⟩ := trod_struct2 Try.underlying50 h
  have hc : Try.prog.cellsOf 50 = 2 := by kernel_rfl
  have hc1 : Try.prog.cellsOf 3 = 1 := by kernel_rfl
  rw [hc] at hl
  simp only [hc1] at h0 h1
  obtain ⟨a0, e0, _⟩ := int_cells h0
  obtain ⟨a1, e1, _⟩ := int_cells h1
  match cs, hl with
  | [c0, c1], _ =>
    simp [iint] at e0 e1
    subst e0 e1
    exact ⟨⟨a0, a1⟩, rfl, trivial⟩
theorem eds_cells {fuel : Nat} {cs : List Value} {x : DataW H × List MemPlace} (h : DataW.trod enc Try.prog W base sp held fuel 22 cs = some x) : ∃ A n c xs, cs = [.slice A n c] ∧ n ≤ 9223372036854775807 ∧ Rd Ed.cells 3 W W.heap.size A n xs := by
  obtain ⟨A, n, c, xs, h1, h2, h3, _⟩ := rows_cells (size := 3) Ed.cells (fun _ => True) Try.underlying22 (by kernel_rfl) (by decide) (fun _ => rfl) (fun fuel cs x h => ed_cells h) h
  exact ⟨A, n, c, xs, h1, h2, h3⟩
theorem prs_cells {fuel : Nat} {cs : List Value} {x : DataW H × List MemPlace} (h : DataW.trod enc Try.prog W base sp held fuel 26 cs = some x) : ∃ A n c xs, cs = [.slice A n c] ∧ n ≤ 9223372036854775807 ∧ Rd Pr.cells 2 W W.heap.size A n xs := by
  obtain ⟨A, n, c, xs, h1, h2, h3, _⟩ := rows_cells (size := 2) Pr.cells (fun _ => True) Try.underlying26 (by kernel_rfl) (by decide) (fun _ => rfl) (fun fuel cs x h => pr_cells h) h
  exact ⟨A, n, c, xs, h1, h2, h3⟩
theorem ints_cells {fuel : Nat} {cs : List Value} {x : DataW H × List MemPlace} (h : DataW.trod enc Try.prog W base sp held fuel 25 cs = some x) : ∃ A n c xs, cs = [.slice A n c] ∧ n ≤ 9223372036854775807 ∧ Rd iint 1 W W.heap.size A n xs ∧ ∀ i, -9223372036854775808 ≤ iy xs i ∧ iy xs i ≤ 9223372036854775807 := by
  obtain ⟨A, n, c, xs, h1, h2, h3, h4⟩ := rows_cells (size := 1) iint (fun n => -9223372036854775808 ≤ n ∧ n ≤ 9223372036854775807) Try.underlying25 (by kernel_rfl) (by decide) (fun _ => rfl) (fun fuel cs x h => int_cells h) h
  refine ⟨A, n, c, xs, h1, h2, h3, fun i => ?_⟩
  unfold iy
  cases e : xs[i]? with
  | none => simp
  | some y => exact h4 y (List.mem_of_getElem? e)
theorem g_cells {fuel : Nat} {cs : List Value} {x : DataW H × List MemPlace} (h : DataW.trod enc Try.prog W base sp held fuel 24 cs = some x) : ∃ rows cols A n c xs, cs = (gv rows cols A n c).toList ∧ n ≤ 9223372036854775807 ∧ Rd Ed.cells 3 W W.heap.size A n xs := by
  obtain ⟨y0, y1, y2, n, _, hl, h0, h1, h2⟩ := Go.Deep.trod_struct3 Try.underlying24 h
  have hc : Try.prog.cellsOf 24 = 3 := by kernel_rfl
  have hc1 : Try.prog.cellsOf 3 = 1 := by kernel_rfl
  have hc2 : Try.prog.cellsOf 22 = 1 := by kernel_rfl
  rw [hc] at hl
  simp only [hc1, hc2] at h0 h1 h2
  obtain ⟨a0, e0, _⟩ := int_cells h0
  obtain ⟨a1, e1, _⟩ := int_cells h1
  obtain ⟨A, n, c, xs, e2, h4, h5⟩ := eds_cells h2
  match cs, hl with
  | [c0, c1, c2], _ =>
    simp [iint] at e0 e1 e2
    subst e0 e1 e2
    exact ⟨a0, a1, A, n, c, xs, rfl, h4, h5⟩
theorem c_cells {fuel : Nat} {cs : List Value} {x : DataW H × List MemPlace} (h : DataW.trod enc Try.prog W base sp held fuel 28 cs = some x) : ∃ A1 n1 c1 A2 n2 c2 A3 n3 c3 ps ys zs, cs = (cv A1 n1 c1 A2 n2 c2 A3 n3 c3).toList ∧ n1 ≤ 9223372036854775807 ∧ Rd Pr.cells 2 W W.heap.size A1 n1 ps ∧ Rd iint 1 W W.heap.size A2 n2 ys ∧ Rd iint 1 W W.heap.size A3 n3 zs ∧ ∀ i, iy ys i ≤ 9223372036854775807 := by
  obtain ⟨y0, y1, y2, n, _, hl, h0, h1, h2⟩ := Go.Deep.trod_struct3 Try.underlying28 h
  have hc : Try.prog.cellsOf 28 = 3 := by kernel_rfl
  have hc1 : Try.prog.cellsOf 25 = 1 := by kernel_rfl
  have hc2 : Try.prog.cellsOf 26 = 1 := by kernel_rfl
  rw [hc] at hl
  simp only [hc1, hc2] at h0 h1 h2
  obtain ⟨A1, n1, c1, ps, e0, g0, p0⟩ := prs_cells h0
  obtain ⟨A2, n2, c2, ys, e1, g1, p1, b1⟩ := ints_cells h1
  obtain ⟨A3, n3, c3, zs, e2, g2, p2, b2⟩ := ints_cells h2
  match cs, hl with
  | [d0, d1, d2], _ =>
    simp at e0 e1 e2
    subst e0 e1 e2
    exact ⟨A1, n1, c1, A2, n2, c2, A3, n3, c3, ps, ys, zs, rfl, g0, p0, p1, p2, fun i => (b1 i).2⟩
theorem open_g (hval : Value.okWide Try.prog W r b0 24 v) (hd : DataW.Trod enc Try.prog W base sp held 24 v d ps) : ∃ rows cols A n c xs, v = .agg (gv rows cols A n c) ∧ n ≤ 9223372036854775807 ∧ Rd Ed.cells 3 W W.heap.size A n xs := by
  obtain ⟨cs, rfl, hs⟩ := okWide_struct Try.underlying24 hval
  obtain ⟨fuel, hf⟩ := hd
  obtain ⟨rows, cols, A, n, c, xs, h1, h2, h3⟩ := g_cells hf
  simp only [Value.cells] at h1
  exact ⟨rows, cols, A, n, c, xs, by rw [show cs = gv rows cols A n c from Array.ext' h1], h2, h3⟩
theorem open_c (hval : Value.okWide Try.prog W r b0 28 v) (hd : DataW.Trod enc Try.prog W base sp held 28 v d ps) : ∃ A1 n1 c1 A2 n2 c2 A3 n3 c3 qs ys zs, v = .agg (cv A1 n1 c1 A2 n2 c2 A3 n3 c3) ∧ n1 ≤ 9223372036854775807 ∧ Rd Pr.cells 2 W W.heap.size A1 n1 qs ∧ Rd iint 1 W W.heap.size A2 n2 ys ∧ Rd iint 1 W W.heap.size A3 n3 zs ∧ ∀ i, iy ys i ≤ 9223372036854775807 := by
  obtain ⟨cs, rfl, hs⟩ := okWide_struct Try.underlying28 hval
  obtain ⟨fuel, hf⟩ := hd
  obtain ⟨A1, n1, c1, A2, n2, c2, A3, n3, c3, qs, ys, zs, h1, h2⟩ := c_cells hf
  simp only [Value.cells] at h1
  exact ⟨A1, n1, c1, A2, n2, c2, A3, n3, c3, qs, ys, zs, by rw [show cs = cv A1 n1 c1 A2 n2 c2 A3 n3 c3 from Array.ext' h1], h2⟩
theorem open_ints (hval : Value.okWide Try.prog W r b0 25 v) (hd : DataW.Trod enc Try.prog W base sp held 25 v d ps) : ∃ A n c xs, v = .slice A n c ∧ n ≤ 9223372036854775807 ∧ Rd iint 1 W W.heap.size A n xs ∧ ∀ i, -9223372036854775808 ≤ iy xs i ∧ iy xs i ≤ 9223372036854775807 := by
  obtain ⟨A0, n0, c0, rfl⟩ := okWide_slice Try.underlying25 hval
  obtain ⟨fuel, hf⟩ := hd
  obtain ⟨A, n, c, xs, h1, h2⟩ := ints_cells hf
  simp only [Value.cells] at h1
  injection h1 with h1
  exact ⟨A, n, c, xs, h1, h2⟩
theorem open_prs (hval : Value.okWide Try.prog W r b0 26 v) (hd : DataW.Trod enc Try.prog W base sp held 26 v d ps) : ∃ A n c xs, v = .slice A n c ∧ n ≤ 9223372036854775807 ∧ Rd Pr.cells 2 W W.heap.size A n xs := by
  obtain ⟨A0, n0, c0, rfl⟩ := okWide_slice Try.underlying26 hval
  obtain ⟨fuel, hf⟩ := hd
  obtain ⟨A, n, c, xs, h1, h2⟩ := prs_cells hf
  simp only [Value.cells] at h1
  injection h1 with h1
  exact ⟨A, n, c, xs, h1, h2⟩
end
end Go.Proofs.Ytikjelkehcnjmaa
