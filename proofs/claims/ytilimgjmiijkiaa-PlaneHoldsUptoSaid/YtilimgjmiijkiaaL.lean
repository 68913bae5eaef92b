/- From a law's contract to its row: the call answers true, the arguments read as they did. -/
import Derived.Test.YtilimgjmiijkiaaQ
import Derived.ProofKit
import Derived.Lib.SmallJoins
namespace Go.Proofs.Ytilimgjmiijkiaa
open Go.ChangeShapes Go.WideShapes Go.ChangeAt Go.RowKit

theorem Try.own : ownKnob Try.prog.godebug = none := by kernel_rfl
theorem Try.laidOut : laidOutB Try.prog = true := by kernel_rfl

theorem trodAll_below {H : Type} {enc : TypeId × Value → H} {W W' : World} (hb : Below W.heap.size W W') :
    ∀ (ts : List TypeId) (vs : List Value) (ds : List (DataW H)) (ps : List MemPlace), (∀ t ∈ ts, Try.prog.readableRec t = true ∧ t < Try.prog.types.size) → (∀ x ∈ ps, x.block < W.heap.size) →
      DataW.TrodAll enc Try.prog W 0 (fun _ => true) true ts vs ds ps → DataW.TrodAll enc Try.prog W' 0 (fun b => decide (b < W.heap.size)) true ts vs ds ps
  | [], [], [], _, _, _, h => h
  | t :: ts, v :: vs, d :: ds, ps, ht, hlt, h => by
    obtain ⟨p, q, h1, h2, rfl⟩ := h
    exact ⟨p, q, Below.trod Try.laidOut (ht t (List.mem_cons_self ..)).1 (ht t (List.mem_cons_self ..)).2 h1 hb (fun x hx => hlt x (List.mem_append.2 (.inl hx))),
      trodAll_below hb ts vs ds q (fun t' ht' => ht t' (List.mem_cons_of_mem _ ht')) (fun x hx => hlt x (List.mem_append.2 (.inr hx))) h2, rfl⟩
  | [], _ :: _, _, _, _, _, h => h.elim
  | [], [], _ :: _, _, _, _, h => h.elim
  | _ :: _, [], _, _, _, _, h => h.elim
  | _ :: _, _ :: _, [], _, _, _, h => h.elim

/-- What a row asks behind the call. -/
theorem law_post {H : Type} {enc : TypeId × Value → H} {fn : Func} {s : ChangeSpec} {W W' : World} {args : Array Value} {ds gs : List (DataW H)} {before : List MemPlace}
    (hW : DataW.Whole enc Try.prog fn.params.toList s.vars false W args.toList ds gs before) (hv : s.vars = [])
    (hs : s.fn H (ds ++ gs) = { results := [.lit (.bool true)], args := ds }) (hr : fn.resultTypes = #[4])
    (hreads : (fn.params.toList.all fun t => Try.prog.readableRec t && decide (t < Try.prog.types.size)) = true) (hb : Below W.heap.size W W') :
    s.post enc Try.prog fn false true false false W args (.bool true) W' := by
  have hW' := hW
  obtain ⟨p, q, hA, hV, rfl, hfz, hnd⟩ := hW
  rw [hv] at hV
  have hlt : ∀ x ∈ p ++ q, x.block < W.heap.size := fun x hx => hW'.lt x hx
  have hreads' : ∀ t ∈ fn.params.toList, Try.prog.readableRec t = true ∧ t < Try.prog.types.size := fun t ht => by
    have h := List.all_eq_true.1 hreads t ht
    simp only [Bool.and_eq_true, decide_eq_true_eq] at h
    exact h
  refine ⟨ds, gs, p ++ q, [], p, q, hW', ?_, ?_, ?_, hb.frame _, fun h => by cases h⟩
  · rw [hs, hr]
    exact trodAll_mk1 (shut_bool Try.underlying4 true)
  · rw [hs]
    exact trodAll_below hb _ _ _ _ hreads' (fun x hx => hlt x (List.mem_append.2 (.inl hx))) hA
  · rw [hs, hv]
    cases gs with
    | nil => exact hV
    | cons g gs => exact hV.elim

section
variable {H : Type} {enc : TypeId × Value → H} {W : World} {base : Nat} {v : Value} {d : DataW H} {ps : List MemPlace} {r : Reach} {b0 : Nat}

theorem pt_cells {fuel : Nat} {cs : List Value} {x : DataW H × List MemPlace} {held : Bool} {sp : Nat → Bool} (h : DataW.trod enc Try.prog W base sp held fuel 24 cs = some x) :
    ∃ a b : Int, cs = [.int .i16 a, .int .i16 b] ∧ x = (.agg [.lit (.int .i16 a), .lit (.int .i16 b)], []) ∧ -32768 ≤ a ∧ a ≤ 32767 ∧ -32768 ≤ b ∧ b ≤ 32767 := by
  obtain ⟨y0, y1, n, rfl, hl, h0, h1⟩ := trod_struct2 Try.underlying24 h
  have hc : Try.prog.cellsOf 24 = 2 := by kernel_rfl
  have hc1 : Try.prog.cellsOf 22 = 1 := by kernel_rfl
  rw [hc] at hl
  match cs, hl with
  | [c0, c1], _ =>
    simp only [hc1] at h0 h1
    obtain ⟨a, e0, rfl, w0⟩ := DataW.trod_int Try.underlying22 h0
    obtain ⟨b, e1, rfl, w1⟩ := DataW.trod_int Try.underlying22 h1
    simp at e0 e1
    subst e0 e1
    obtain ⟨g1, g2⟩ := bounds_i16 w0
    obtain ⟨g3, g4⟩ := bounds_i16 w1
    exact ⟨a, b, rfl, rfl, g1, g2, g3, g4⟩

theorem open_pt {held : Bool} {sp : Nat → Bool} (hval : Value.okWide Try.prog W r b0 24 v) (hd : DataW.Trod enc Try.prog W base sp held 24 v d ps) :
    ∃ a b : Int, v = .agg #[.int .i16 a, .int .i16 b] ∧ d = .agg [.lit (.int .i16 a), .lit (.int .i16 b)] ∧ ps = [] ∧ -32768 ≤ a ∧ a ≤ 32767 ∧ -32768 ≤ b ∧ b ≤ 32767 := by
  obtain ⟨cs, rfl, hs⟩ := okWide_struct Try.underlying24 hval
  obtain ⟨fuel, hf⟩ := hd
  obtain ⟨a, b, h1, h2, h3⟩ := pt_cells hf
  simp only [Value.cells] at h1
  injection h2 with h2 h4
  refine ⟨a, b, ?_, h2, h4, h3⟩
  have : cs = #[.int .i16 a, .int .i16 b] := by
    apply Array.toList_inj.1; simpa using h1
  rw [this]

theorem open_box {held : Bool} {sp : Nat → Bool} (hval : Value.okWide Try.prog W r b0 33 v) (hd : DataW.Trod enc Try.prog W base sp held 33 v d ps) :
    ∃ a b c e : Int, v = .agg #[.int .i16 a, .int .i16 b, .int .i16 c, .int .i16 e] ∧ d = .agg [.agg [.lit (.int .i16 a), .lit (.int .i16 b)], .agg [.lit (.int .i16 c), .lit (.int .i16 e)]] ∧ ps = [] ∧
      -32768 ≤ a ∧ a ≤ 32767 ∧ -32768 ≤ b ∧ b ≤ 32767 ∧ -32768 ≤ c ∧ c ≤ 32767 ∧ -32768 ≤ e ∧ e ≤ 32767 := by
  obtain ⟨cs, rfl, hs⟩ := okWide_struct Try.underlying33 hval
  obtain ⟨fuel, hf⟩ := hd
  obtain ⟨y0, y1, n, hx, hl, h0, h1⟩ := trod_struct2 Try.underlying33 hf
  have hc : Try.prog.cellsOf 33 = 4 := by kernel_rfl
  have hc1 : Try.prog.cellsOf 24 = 2 := by kernel_rfl
  simp only [Value.cells] at h0 h1 hl
  rw [hc] at hl
  obtain ⟨l, rfl⟩ : ∃ l, cs = l.toArray := ⟨cs.toList, by simp⟩
  simp only [hc1] at h0 h1 hl
  match l, hl with
  | [c0, c1, c2, c3], _ =>
    obtain ⟨a, b, e1, rfl, g1⟩ := pt_cells h0
    obtain ⟨c, e, e2, rfl, g2⟩ := pt_cells h1
    simp at e1 e2
    obtain ⟨rfl, rfl⟩ := e1
    obtain ⟨rfl, rfl⟩ := e2
    injection hx with hx1 hx2
    exact ⟨a, b, c, e, rfl, hx1, hx2, g1.1, g1.2.1, g1.2.2.1, g1.2.2.2, g2⟩

theorem open_i {held : Bool} {sp : Nat → Bool} (hval : Value.okWide Try.prog W r b0 3 v) (hd : DataW.Trod enc Try.prog W base sp held 3 v d ps) :
    ∃ n : Int, v = .int .i64 n ∧ d = .lit (.int .i64 n) ∧ ps = [] ∧ -9223372036854775808 ≤ n ∧ n ≤ 9223372036854775807 := by
  obtain ⟨n, h1, h2, h3, h4⟩ := open_int Try.underlying3 hval hd
  exact ⟨n, h1, h2, h3, bounds_i64 h4⟩

theorem open_u {held : Bool} {sp : Nat → Bool} (hval : Value.okWide Try.prog W r b0 44 v) (hd : DataW.Trod enc Try.prog W base sp held 44 v d ps) :
    ∃ n : Int, v = .int .u64 n ∧ d = .lit (.int .u64 n) ∧ ps = [] ∧ 0 ≤ n ∧ n ≤ 18446744073709551615 := by
  obtain ⟨n, h1, h2, h3, h4⟩ := open_int Try.underlying44 hval hd
  exact ⟨n, h1, h2, h3, bounds_u64 h4⟩
end
end Go.Proofs.Ytilimgjmiijkiaa
