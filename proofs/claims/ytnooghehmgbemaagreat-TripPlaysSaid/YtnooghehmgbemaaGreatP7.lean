/- TripPlays: the book: what it holds; keeping a list. -/
import Derived.Test.YtnooghehmgbemaaGreatP6
namespace Go.Proofs.YtnooghehmgbemaaGreat
open Go.RowKit
set_option linter.unusedVariables false
set_option linter.unusedSimpArgs false

/-- the book's cells: its number, and lists of which only that of trips may hold anything -/
def bookC (n : Int) (hv : Value) : Array Value := #[.int .i64 n, .slice none 0 0, .slice none 0 0, .slice none 0 0, .slice none 0 0, .slice none 0 0, .slice none 0 0, .slice none 0 0, .slice none 0 0, .slice none 0 0, .slice none 0 0, .slice none 0 0, .slice none 0 0, .slice none 0 0, .slice none 0 0, .slice none 0 0, .slice none 0 0, .slice none 0 0, hv, .slice none 0 0, .slice none 0 0, .slice none 0 0, .slice none 0 0, .slice none 0 0, .slice none 0 0, .slice none 0 0]
/-- a list that was kept: where it lies, how long it is, how much room it has, its number -/
structure HE where
  g : Option Nat
  len : Nat
  cap : Nat
  num : Int
def HE.v (e : HE) : Value := .slice (e.g.map fun b => ⟨b, 0, none⟩) e.len e.cap
def HE.cells (e : HE) : List Value := [e.v, .slice none 0 0, .int .i64 e.num]
def HE.Lf (F : Nat → Prop) (w : World) (e : HE) : Prop := (e.g = none ∧ e.len = 0 ∧ e.cap = 0) ∨ ∃ b cur, e.g = some b ∧ w.heap[b]? = some (.cells cur 83 (0, 0)) ∧ e.len ≤ e.cap ∧ e.cap ≤ maxLen ∧ cur.size = e.cap * 23 ∧ F b
structure BookIn (F : Nat → Prop) (w : World) (kb : Nat) (hv : Value) (es : List HE) : Prop where
  hd : w.heap[kb]? = some (.cells (bookC es.length hv) 54 (0, 0))
  row : w.ownsRow 0 93 3 hv es.length ((es.map HE.cells).flatMap id)
  leaf : ∀ e ∈ es, e.Lf F w
  apart : es.Pairwise fun a b => ∀ x, a.g = some x → b.g ≠ some x
  num : ∀ (i : Nat) (e : HE), es[i]? = some e → e.num = (i : Int) + 1
  len : ∀ e ∈ es, e.len ≤ 1048576
  fr : F kb
  fo : ∀ g, hv.ownBlock = some g → F g
def BookAt (F : Nat → Prop) (w : World) (kb : Nat) (es : List HE) : Prop := (∀ k, F k → k < w.heap.size) ∧ ∃ hv, BookIn F w kb hv es
section
variable {F G : Nat → Prop} {w u : World} {kb : Nat} {hv : Value} {es : List HE}
theorem HE.Lf.of {e : HE} (h : e.Lf F w) (hb : ∀ k, F k → u.heap[k]? = w.heap[k]?) (hG : ∀ k, F k → G k) : e.Lf G u := by
  rcases h with h | ⟨b, cur, h1, h2, h3, h4, h5, h6⟩
  · exact .inl h
  · exact .inr ⟨b, cur, h1, (hb b h6).trans h2, h3, h4, h5, hG b h6⟩
theorem ownsRow_of {e : TypeId} {size : Nat} {v : Value} {n : Nat} {xs : List Value} (h : w.ownsRow 0 e size v n xs) (hb : ∀ g, v.ownBlock = some g → u.heap[g]? = w.heap[g]?) : u.ownsRow 0 e size v n xs :=
  ⟨h.1, by
    rcases h.2 with e | ⟨g, cap, cur, h1, h2, h3, h4⟩
    · exact .inl e
    · exact .inr ⟨g, cap, cur, h1, h2, (hb g (by rw [h1]; rfl)).trans h3, h4⟩⟩
theorem BookIn.of_blocks (h : BookIn F w kb hv es) (hb : ∀ k, F k → u.heap[k]? = w.heap[k]?) (hG : ∀ k, F k → G k) : BookIn G u kb hv es where
  hd := (hb _ h.fr).trans h.hd
  row := ownsRow_of h.row (fun g hg => hb g (h.fo g hg))
  leaf := fun e he => (h.leaf e he).of hb hG
  apart := h.apart
  num := h.num
  len := h.len
  fr := hG _ h.fr
  fo := fun g hg => hG _ (h.fo g hg)
theorem BookAt.of_lies {X : Nat → Prop} (h : BookAt F w kb es) (hl : Lies X w u) (hX : ∀ k, F k → ¬ X k) : BookAt F u kb es := by
  obtain ⟨hF, hv, h⟩ := h
  exact ⟨fun k hk => Nat.lt_of_lt_of_le (hF k hk) hl.size, hv, h.of_blocks (fun k hk => hl.block k (hF k hk) (hX k hk)) (fun _ hk => hk)⟩
theorem BookIn.c0 (h : BookIn F w kb hv es) : w.cell? ⟨kb, 0, none⟩ = some (.int .i64 es.length) := by rw [cell_of_row w kb _ _ _ _ h.hd]; rfl
theorem BookIn.c18 (h : BookIn F w kb hv es) : w.cell? ⟨kb, 18, none⟩ = some hv := by rw [cell_of_row w kb _ _ _ _ h.hd]; rfl
theorem BookIn.lt (h : BookIn F w kb hv es) : kb < w.heap.size := (Array.getElem?_eq_some_iff.1 h.hd).1
theorem BookIn.row_ne (h : BookIn F w kb hv es) : hv.ownBlock ≠ some kb := fun e => by
  rcases h.row.2 with ⟨h1, _⟩ | ⟨g, cap, cur, h1, _, h2, _⟩
  · rw [h1] at e; cases e
  · rw [h1] at e; injection e with e; subst e
    have := h.hd; rw [h2] at this; injection this with this; injection this with _ this; cases this
end
theorem info93 : (Tryz.prog.info? 93).map (fun i => (i.zero, i.size, i.bytes)) = some (some (.agg #[.slice none 0 0, .slice none 0 0, .int .i64 0]), 3, 56) := by kernel_rfl
theorem size45 : (Tryz.prog.info? 45).map (·.size) = some 1 := by kernel_rfl
theorem build93 (ao : Option Addr) (m c : Nat) (n : Int) (u : World) : (Instr.build 93 #[(0, .slice ao m c), (2, .int .i64 n)]).run Tryz.prog u = .ok (.agg #[.slice ao m c, .slice none 0 0, .int .i64 n]) u := by kernel_rfl
theorem zero54 : (Tryz.prog.info? 54).map (fun i => (i.zero, i.size)) = some (some (.agg (bookC 0 (.slice none 0 0))), 26) := by kernel_rfl
end Go.Proofs.YtnooghehmgbemaaGreat
