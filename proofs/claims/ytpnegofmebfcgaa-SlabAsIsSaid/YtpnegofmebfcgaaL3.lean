/- Slices that came in, opened: a row of things, each a fixed number of cells. -/
import Derived.Test.YtpnegofmebfcgaaL
namespace Go.Proofs.Ytpnegofmebfcgaa
open Go.ChangeShapes Go.WideShapes Go.ChangeAt Go.RowKit
set_option maxRecDepth 50000

/-- a slice's things, as cells of w below block B -/
structure Rd {α : Type} (cells : α → List Value) (size : Nat) (w : World) (B : Nat) (A : Option Addr) (n : Nat) (xs : List α) : Prop where
  len : xs.length = n
  at_ : 0 < n → ∃ b off, A = some ⟨b, off, none⟩ ∧ b < B ∧ ∀ (i : Nat) (x : α), xs[i]? = some x → ∀ (j : Nat) (v : Value), (cells x)[j]? = some v → w.cell? ⟨b, off + i * size + j, none⟩ = some v

theorem Rd.below {α : Type} {cells : α → List Value} {size : Nat} {w w' : World} {B n : Nat} {A : Option Addr} {xs : List α} (h : Rd cells size w B A n xs) (hb : Below B w w') : Rd cells size w' B A n xs :=
  ⟨h.len, fun hn => by obtain ⟨b, off, e, hl, hc⟩ := h.at_ hn; exact ⟨b, off, e, hl, fun i x hx j v hv => (hb.cell (p := ⟨b, off + i * size + j, none⟩) hl).trans (hc i x hx j v hv)⟩⟩

theorem open_rows {α : Type} [Inhabited α] (cells : α → List Value) (ok : α → Prop) {T E : TypeId} {size : Nat} (hu : Try.prog.underlying T = some (.slice E)) (hC : Try.prog.cellsOf E = size) (h0 : 0 < size) (hz : ∀ a, (cells a).length = size)
    {H : Type} {enc : TypeId × Value → H} {W : World} {base : Nat} {v : Value} {d : DataW H} {ps : List MemPlace} {r : Reach} {b0 : Nat} {held : Bool} {sp : Nat → Bool}
    (hE : ∀ (fuel : Nat) (cs : List Value) (x : DataW H × List MemPlace), DataW.trod enc Try.prog W base sp held fuel E cs = some x → ∃ a, cs = cells a ∧ ok a)
    (hval : Value.okWide Try.prog W r b0 T v) (hd : DataW.Trod enc Try.prog W base sp held T v d ps) :
    ∃ A n c xs, v = .slice A n c ∧ n ≤ c ∧ Rd cells size W W.heap.size A n xs ∧ (∀ x ∈ xs, ok x) ∧ (n = 0 ∨ ∃ elems spare, d = .slice elems spare ∧ elems.length = n) := by
  obtain ⟨A, n, c, rfl⟩ := okWide_slice hu hval
  obtain ⟨fuel, hf⟩ := hd
  rcases Go.Deep.open_slice hu hf with ⟨h0, _⟩ | ⟨a, len, cap, m, k, D, Pl, hcs, hb, hl, hm, hmm, hx, hi⟩
  · simp only [Value.cells] at h0
    injection h0 with h0
    injection h0 with e1 e2 e3
    subst e1 e2 e3
    exact ⟨none, 0, 0, [], rfl, Nat.le_refl _, ⟨rfl, fun h => absurd h (by omega)⟩, (by intro p hp; cases hp), .inl rfl⟩
  · simp only [Value.cells] at hcs
    injection hcs with hcs
    injection hcs with e1 e2 e3
    subst e1 e2 e3
    have hd' : d = .slice ((List.range n).map D) ((List.range (m - n)).map fun j => D (n + j)) := by injection hx
    have hle : n ≤ m := by rw [hmm]; split <;> omega
    have key : ∀ i, i < n → ∃ p : α, ok p ∧ ∀ (j : Nat) (v : Value), (cells p)[j]? = some v → W.cell? ((a.add (i * size)).add j) = some v := fun i hi' => by
      obtain ⟨cs', hc, ht⟩ := hi i (by omega)
      rw [hC] at hc
      obtain ⟨x, rfl, hok⟩ := hE _ _ _ ht
      obtain ⟨_, _, hat⟩ := World.cells?_some hc
      refine ⟨x, hok, fun j v hv => ?_⟩
      have hj : j < size := by rw [← hz x]; exact (List.getElem?_eq_some_iff.1 hv).1
      rw [hat j hj]
      simpa using hv
    obtain ⟨f, hfn⟩ : ∃ f : Nat → α, ∀ i, i < n → ok (f i) ∧ ∀ (j : Nat) (v : Value), (cells (f i))[j]? = some v → W.cell? ((a.add (i * size)).add j) = some v :=
      ⟨fun i => if h : i < n then (key i h).choose else default, fun i h => by simp only [dif_pos h]; exact (key i h).choose_spec⟩
    clear key
    refine ⟨some a, n, c, (List.range n).map f, rfl, hl, ⟨by simp, fun hn => ?_⟩, ?_, .inr ⟨_, _, hd', by simp⟩⟩
    · have hc0 : ∃ v0, (cells (f 0))[0]? = some v0 := ⟨_, List.getElem?_eq_getElem (by rw [hz]; exact h0)⟩
      obtain ⟨v0, hv0⟩ := hc0
      have h00 := (hfn 0 hn).2 0 v0 hv0
      obtain ⟨b, off, spot⟩ := a
      have hspot : spot = none := by
        simpa [Addr.add] using World.cell?_spot h00
      subst hspot
      refine ⟨b, off, rfl, ?_, fun i p hp j v hv => ?_⟩
      · rw [Go.WideShapes.add_plain, Go.WideShapes.add_plain] at h00
        rcases Nat.lt_or_ge b W.heap.size with hlt | hge
        · exact hlt
        · simp [World.cell?, Array.getElem?_eq_none hge] at h00
      · have hi2 : i < n := by
          have := (List.getElem?_eq_some_iff.1 hp).1
          simpa using this
        rw [List.getElem?_map, List.getElem?_range hi2] at hp
        simp only [Option.map_some] at hp
        injection hp with hp
        subst hp
        have := (hfn i hi2).2 j v hv
        rw [Go.WideShapes.add_plain, Go.WideShapes.add_plain] at this
        exact this
    · intro p hp
      obtain ⟨i, hi1, rfl⟩ := List.mem_map.1 hp
      exact (hfn i (List.mem_range.1 hi1)).1

/-- a step of a script -/
structure OpV where
  who : Int
  kind : Int
  n : Int
  hs : Int
  hg : Int
  x : ByteArray
deriving Inhabited
def OpV.cells (o : OpV) : List Value := [.int .i64 o.who, .int .i64 o.kind, .int .i64 o.n, .int .i64 o.hs, .int .i64 o.hg, .string o.x]
def i64 (n : Int) : Prop := -9223372036854775808 ≤ n ∧ n ≤ 9223372036854775807
def OpV.ok (o : OpV) : Prop := i64 o.who ∧ i64 o.kind ∧ i64 o.n ∧ i64 o.hs ∧ i64 o.hg

section
variable {H : Type} {enc : TypeId × Value → H} {W : World} {base : Nat} {v : Value} {d : DataW H} {ps : List MemPlace} {r : Reach} {b0 : Nat} {held : Bool} {sp : Nat → Bool}
set_option maxRecDepth 50000 in
theorem int_cells {fuel : Nat} {cs : List Value} {x : DataW H × List MemPlace} (h : DataW.trod enc Try.prog W base sp held fuel 3 cs = some x) : ∃ n : Int, cs = [.int .i64 n] ∧ i64 n := by
  obtain ⟨n, e, rfl, w0⟩ := DataW.trod_int Try.underlying3 h
  exact ⟨n, e, bounds_i64 w0⟩
theorem handle_cells {fuel : Nat} {cs : List Value} {x : DataW H × List MemPlace} (h : DataW.trod enc Try.prog W base sp held fuel 32 cs = some x) : ∃ a b : Int, cs = [.int .i64 a, .int .i64 b] ∧ i64 a ∧ i64 b := by
  obtain ⟨y0, y1, n, rfl, hl, h0, h1⟩ := trod_struct2 Try.underlying32 h
  have hc : Try.prog.cellsOf 32 = 2 := by kernel_rfl
  have hc1 : Try.prog.cellsOf 3 = 1 := by kernel_rfl
  rw [hc] at hl
  match cs, hl with
  | [c0, c1], _ =>
    simp only [hc1] at h0 h1
    obtain ⟨a, e0, w0⟩ := int_cells h0
    obtain ⟨b, e1, w1⟩ := int_cells h1
    simp at e0 e1
    subst e0 e1
    exact ⟨a, b, rfl, w0, w1⟩
theorem list6 {α : Type} {cs : List α} (h : cs.length = 6) : ∃ c0 c1 c2 c3 c4 c5, cs = [c0, c1, c2, c3, c4, c5] := by
  match cs, h with
  | [c0, c1, c2, c3, c4, c5], _ => exact ⟨c0, c1, c2, c3, c4, c5, rfl⟩
theorem trod_struct5 {t : TypeId} {f0 f1 f2 f3 f4 : Field} {fuel : Nat} {cs : List Value} {x : DataW H × List MemPlace} (ht : Try.prog.underlying t = some (.struct #[f0, f1, f2, f3, f4])) (h : DataW.trod enc Try.prog W base sp held fuel t cs = some x) :
    ∃ y0 y1 y2 y3 y4 n, cs.length = Try.prog.cellsOf t ∧ DataW.trod enc Try.prog W base sp held n f0.type ((cs.drop f0.offset).take (Try.prog.cellsOf f0.type)) = some y0 ∧
      DataW.trod enc Try.prog W base sp held n f1.type ((cs.drop f1.offset).take (Try.prog.cellsOf f1.type)) = some y1 ∧ DataW.trod enc Try.prog W base sp held n f2.type ((cs.drop f2.offset).take (Try.prog.cellsOf f2.type)) = some y2 ∧
      DataW.trod enc Try.prog W base sp held n f3.type ((cs.drop f3.offset).take (Try.prog.cellsOf f3.type)) = some y3 ∧ DataW.trod enc Try.prog W base sp held n f4.type ((cs.drop f4.offset).take (Try.prog.cellsOf f4.type)) = some y4 := by
  obtain ⟨xs, n, _, rfl, hl, hlen, hf⟩ := DataW.trod_struct ht h
  match xs, hlen with
  | [y0, y1, y2, y3, y4], _ => exact ⟨y0, y1, y2, y3, y4, n, hl, by simpa using hf 0 f0 rfl, by simpa using hf 1 f1 rfl, by simpa using hf 2 f2 rfl, by simpa using hf 3 f3 rfl, by simpa using hf 4 f4 rfl⟩
theorem op_cells {fuel : Nat} {cs : List Value} {x : DataW H × List MemPlace} (h : DataW.trod enc Try.prog W base sp held fuel 67 cs = some x) : ∃ o : OpV, cs = o.cells ∧ o.ok := by
  obtain ⟨y0, y1, y2, y3, y4, n, hl, h0, h1, h2, h3, h4⟩ := trod_struct5 Try.underlying67 h
  have hc : Try.prog.cellsOf 67 = 6 := by kernel_rfl
  have hc1 : Try.prog.cellsOf 3 = 1 := by kernel_rfl
  have hc2 : Try.prog.cellsOf 32 = 2 := by kernel_rfl
  have hc3 : Try.prog.cellsOf 9 = 1 := by kernel_rfl
  rw [hc] at hl
  obtain ⟨c0, c1, c2, c3, c4, c5, rfl⟩ := list6 hl
  simp only [hc1, hc2, hc3] at h0 h1 h2 h3 h4
  obtain ⟨a0, e0, w0⟩ := int_cells h0
  obtain ⟨a1, e1, w1⟩ := int_cells h1
  obtain ⟨a2, e2, w2⟩ := int_cells h2
  obtain ⟨a3, a4, e3, w3, w4⟩ := handle_cells h3
  obtain ⟨s, e5, _, _⟩ := DataW.trod_string Try.underlying9 h4
  simp at e0 e1 e2 e3 e5
  obtain ⟨e3, e4⟩ := e3
  subst e0 e1 e2 e3 e4 e5
  exact ⟨⟨a0, a1, a2, a3, a4, s⟩, rfl, w0, w1, w2, w3, w4⟩
theorem open_ops (hval : Value.okWide Try.prog W r b0 52 v) (hd : DataW.Trod enc Try.prog W base sp held 52 v d ps) :
    ∃ A n c xs, v = .slice A n c ∧ n ≤ c ∧ Rd OpV.cells 6 W W.heap.size A n xs ∧ (∀ x ∈ xs, OpV.ok x) ∧ (n = 0 ∨ ∃ elems spare, d = .slice elems spare ∧ elems.length = n) :=
  open_rows OpV.cells OpV.ok Try.underlying52 (by kernel_rfl) (by decide) (fun _ => rfl) (fun _ _ _ h => op_cells h) hval hd
theorem open_ints (hval : Value.okWide Try.prog W r b0 22 v) (hd : DataW.Trod enc Try.prog W base sp held 22 v d ps) :
    ∃ A n c xs, v = .slice A n c ∧ n ≤ c ∧ Rd (fun k : Int => [.int .i64 k]) 1 W W.heap.size A n xs ∧ (∀ x ∈ xs, i64 x) ∧ (n = 0 ∨ ∃ elems spare, d = .slice elems spare ∧ elems.length = n) :=
  open_rows (size := 1) (fun k : Int => [.int .i64 k]) i64 Try.underlying22 (by kernel_rfl) (by decide) (fun _ => rfl) (fun _ _ _ h => int_cells h) hval hd
theorem open_strs (hval : Value.okWide Try.prog W r b0 74 v) (hd : DataW.Trod enc Try.prog W base sp held 74 v d ps) :
    ∃ A n c xs, v = .slice A n c ∧ n ≤ c ∧ Rd (fun k : ByteArray => [.string k]) 1 W W.heap.size A n xs ∧ (∀ x ∈ xs, True) ∧ (n = 0 ∨ ∃ elems spare, d = .slice elems spare ∧ elems.length = n) :=
  open_rows (size := 1) (fun k : ByteArray => [.string k]) (fun _ => True) Try.underlying74 (by kernel_rfl) (by decide) (fun _ => rfl) (fun _ _ _ h => by obtain ⟨s, e, _⟩ := DataW.trod_string Try.underlying9 h; exact ⟨s, e, trivial⟩) hval hd
end
end Go.Proofs.Ytpnegofmebfcgaa
