/- Slab, base: worlds that grow, what came in opened, the slab as cells, the handles told; regions in a round. Merged texts. -/
import Derived.Test.YtpnegofmebfcgaaRows
import Derived.WalkKit
import Derived.WalkSpells
import Derived.WalkLawsBesides
import Derived.Deep.QuietTactic
import Derived.BigQuiet
import Derived.Deep.Slices
import Derived.JoinedCond
import Derived.ProofKit
import Derived.Lib.SmallJoins
import Derived.Below
import Derived.Laws.OwnMore
import Derived.Maps.AppendAt
import Derived.Deep.AppendLies
import Derived.RangeFuncNested
import Derived.RangeFuncBound
import Derived.RangeFuncCalls
import Derived.RangeFuncLeaves
import Derived.Shelf.Abstract
import Derived.Shelf.RegionOpen
import Derived.OwnWalkIn
import Derived.TacticsInMore
import Derived.LoopNIn
import Derived.LoopIn
import Derived.Sort.BigQuietIn
import Derived.Sort.QuietThIn
import Derived.AtR
import Derived.OneCell
import Derived.Laws.MakeOwn
import Derived.OrdersHeld
import Derived.Deep.RegionHeld
/- Words of this seat: worlds that have only grown, as values. -/
namespace Go.Proofs.Ytpnegofmebfcgaa
open Go.RowKit

/-- A world in which all that lay below B in w lies as it lay. -/
structure BW (B : Nat) (w : World) where
  i : World
  h : Below B w i

instance {B : Nat} {w : World} : Nonempty (BW B w) := ⟨⟨w, Below.refl _ _⟩⟩
def BW.refl (B : Nat) (w : World) : BW B w := ⟨w, Below.refl _ _⟩

theorem BW.cell {B : Nat} {w : World} (x : BW B w) {p : Addr} (hp : p.block < B) : x.i.cell? p = w.cell? p := x.h.cell hp
theorem BW.frozen {B : Nat} {w : World} (x : BW B w) {p : Addr} (hp : p.block < B) : x.i.frozen? p = w.frozen? p := x.h.frozen hp
theorem BW.size {B : Nat} {w : World} (x : BW B w) : w.heap.size ≤ x.i.heap.size := x.h.size
def BW.up {B : Nat} {w : World} (x : BW B w) (y : BW x.i.heap.size x.i) (hB : B ≤ w.heap.size) : BW B w :=
  ⟨y.i, x.h.trans (y.h.mono (Nat.le_trans hB x.h.size))⟩
@[go_sem] theorem BW.up_i {B : Nat} {w : World} (x : BW B w) (y : BW x.i.heap.size x.i) (hB : B ≤ w.heap.size) : (x.up y hB).i = y.i := rfl

/-- The call returns v, and what was there lies as it lay. -/
def Gives (v : Value) (w : World) : Ending → World → Prop := fun e w' => e = .returned v ∧ ∃ x : BW w.heap.size w, w' = x.i

theorem gives_same {v : Value} {w : World} : Gives v w (.returned v) w := ⟨rfl, BW.refl _ _, rfl⟩
theorem gives_of {v : Value} {w w' : World} (h : Below w.heap.size w w') : Gives v w (.returned v) w' := ⟨rfl, ⟨w', h⟩, rfl⟩
theorem gives_of_eq {u v : Value} {w w' : World} (e : u = v) (h : Below w.heap.size w w') : Gives v w (.returned u) w' := by subst e; exact gives_of h

/-- The call returns v and leaves the world alone. -/
def Keeps (v : Value) (w : World) : Ending → World → Prop := fun e w' => e = .returned v ∧ w = w'
theorem keeps_eq {u v : Value} {w : World} (e : u = v) : Keeps v w (.returned u) w := by subst e; exact ⟨rfl, rfl⟩

theorem Calls.bw_of {P : Program} {f : FuncId} {args : Array Value} {B : Nat} {w : World} {x : BW B w} {v : Value} (hB : B ≤ w.heap.size)
    (h : Calls P f args x.i (Gives v x.i)) : Calls P f args x.i fun e w'' => e = .returned v ∧ ∃ y : BW B w, w'' = y.i :=
  h.mono fun _ _ ⟨he, y, hy⟩ => ⟨he, x.up y hB, hy⟩

theorem Calls.bw_same {P : Program} {f : FuncId} {args : Array Value} {B : Nat} {w : World} {x : BW B w} {v : Value}
    (h : Calls P f args x.i (Keeps v x.i)) : Calls P f args x.i fun e w'' => e = .returned v ∧ ∃ y : BW B w, w'' = y.i :=
  h.mono fun _ _ ⟨he, hy⟩ => ⟨he, x, hy.symm⟩

/-- A region that draws its order, its operations reading and its calls only making memory: one walk. -/
theorem wp_region_bw {P : Program} {id : Nat} {Q : Exit → Act → World → Prop} {a : Act} {w : World} {l : List Oper} (B : Nat) (W : World) (hw : Below B W w) (hm : P.follows .mixedOrders = true) (hB : Region.lexB .any l.toArray = true)
    (h : wpQuiet P l.toArray (fun w' => ∃ x : BW B W, w' = x.i) (fun a' => ∀ x : BW B W, Q .normal a' x.i) l a) : (Code.region id l.toArray true).wp P Q a w :=
  wp_region_quiet (C := fun w' => ∃ x : BW B W, w' = x.i) hm hB ⟨⟨{ w with drawn := w.drawn + 1 }, hw.drew⟩, rfl⟩
    (by
      have e : (fun a' => ∀ w', (∃ x : BW B W, w' = x.i) → Q .normal a' w') = fun a' => ∀ x : BW B W, Q .normal a' x.i := by
        funext a'
        exact propext ⟨fun h x => h _ ⟨x, rfl⟩, fun h w' ⟨x, hx⟩ => hx ▸ h x⟩
      rw [e]
      simpa using h)
theorem Calls.bw_at {P : Program} {f : FuncId} {args : Array Value} {B : Nat} {W w : World} {v : Value} (hw : Below B W w) (hB : B ≤ w.heap.size)
    (h : Calls P f args w (Gives v w)) : Calls P f args w fun e w'' => e = .returned v ∧ ∃ y : BW B W, w'' = y.i :=
  h.mono fun _ _ ⟨he, y, hy⟩ => ⟨he, ⟨y.i, hw.trans (y.h.mono hB)⟩, hy⟩

theorem Calls.bw_at_same {P : Program} {f : FuncId} {args : Array Value} {B : Nat} {W w : World} {v : Value} (hw : Below B W w)
    (h : Calls P f args w (Keeps v w)) : Calls P f args w fun e w'' => e = .returned v ∧ ∃ y : BW B W, w'' = y.i :=
  h.mono fun _ _ ⟨he, hy⟩ => ⟨he, ⟨w, hw⟩, hy.symm⟩

end Go.Proofs.Ytpnegofmebfcgaa

/- From a law's contract to its row: the call answers true, the arguments read as they did. -/
namespace Go.Proofs.Ytpnegofmebfcgaa
open Go.ChangeShapes Go.WideShapes Go.ChangeAt Go.RowKit

theorem Try.own : ownKnob Try.prog.godebug = none := by kernel_rfl
theorem Try.laidOut : laidOutB Try.prog = true := by kernel_rfl

theorem trodAll_below {H : Type} {enc : TypeId × Value → H} {W W' : World} (hb : Below W.heap.size W W') :
    ∀ (ts : List TypeId) (vs : List Value) (ds : List (DataW H)) (ps : List MemPlace), (∀ t ∈ ts, Try.prog.readableRec t = true ∧ t < Try.prog.types.size) → (∀ x ∈ ps, x.block < W.heap.size) →
      DataW.TrodAll enc Try.prog W 0 (fun _ => true) true ts vs ds ps → DataW.TrodAll enc Try.prog W' 0 (fun b => decide (b < W.heap.size)) true ts vs ds ps
  | [], [], [], _, _, _, h => h
  | t :: ts, v :: vs, d :: ds, ps, ht, hlt, h => by
    obtain ⟨p, q, h1, h2, rfl⟩ := h
    exact ⟨p, q, Below.trod Try.laidOut (ht t (List.mem_cons_self ..)).1 (ht t (List.mem_cons_self ..)).2 h1 hb (fun x hx => hlt x (List.mem_append.2 (.inl hx))),
      trodAll_below hb ts vs ds q (fun t' ht' => ht t' (List.mem_cons_of_mem _ ht')) (fun x hx => hlt x (List.mem_append.2 (.inr hx))) h2, rfl⟩
  | [], _ :: _, _, _, _, _, h => h.elim
  | [], [], _ :: _, _, _, _, h => h.elim
  | _ :: _, [], _, _, _, _, h => h.elim
  | _ :: _, _ :: _, [], _, _, _, h => h.elim

/-- What a row asks behind the call. -/
theorem law_post {H : Type} {enc : TypeId × Value → H} {fn : Func} {s : ChangeSpec} {W W' : World} {args : Array Value} {ds gs : List (DataW H)} {before : List MemPlace}
    (hW : DataW.Whole enc Try.prog fn.params.toList s.vars false W args.toList ds gs before) (hv : s.vars = [])
    (hs : s.fn H (ds ++ gs) = { results := [.lit (.bool true)], args := ds }) (hr : fn.resultTypes = #[4])
    (hreads : (fn.params.toList.all fun t => Try.prog.readableRec t && decide (t < Try.prog.types.size)) = true) (hb : Below W.heap.size W W') :
    s.post enc Try.prog fn false true false false W args (.bool true) W' := by
  have hW' := hW
  obtain ⟨p, q, hA, hV, rfl, hfz, hnd⟩ := hW
  rw [hv] at hV
  have hlt : ∀ x ∈ p ++ q, x.block < W.heap.size := fun x hx => hW'.lt x hx
  have hreads' : ∀ t ∈ fn.params.toList, Try.prog.readableRec t = true ∧ t < Try.prog.types.size := fun t ht => by
    have h := List.all_eq_true.1 hreads t ht
    simp only [Bool.and_eq_true, decide_eq_true_eq] at h
    exact h
  refine ⟨ds, gs, p ++ q, [], p, q, hW', ?_, ?_, ?_, hb.frame _, fun h => by cases h⟩
  · rw [hs, hr]
    exact trodAll_mk1 (shut_bool Try.underlying4 true)
  · rw [hs]
    exact trodAll_below hb _ _ _ _ hreads' (fun x hx => hlt x (List.mem_append.2 (.inl hx))) hA
  · rw [hs, hv]
    cases gs with
    | nil => exact hV
    | cons g gs => exact hV.elim

section
variable {H : Type} {enc : TypeId × Value → H} {W : World} {base : Nat} {v : Value} {d : DataW H} {ps : List MemPlace} {r : Reach} {b0 : Nat}

set_option maxRecDepth 50000 in
theorem open_i {held : Bool} {sp : Nat → Bool} (hval : Value.okWide Try.prog W r b0 3 v) (hd : DataW.Trod enc Try.prog W base sp held 3 v d ps) :
    ∃ n : Int, v = .int .i64 n ∧ d = .lit (.int .i64 n) ∧ ps = [] ∧ -9223372036854775808 ≤ n ∧ n ≤ 9223372036854775807 := by
  obtain ⟨n, h1, h2, h3, h4⟩ := open_int Try.underlying3 hval hd
  exact ⟨n, h1, h2, h3, bounds_i64 h4⟩

end

theorem bulk_one {H : Type} (d : DataW H) : 1 ≤ Rows.uptoBulk d := by
  cases d with
  | lit l => cases l <;> simp [Rows.uptoBulk]
  | nil => simp [Rows.uptoBulk]
  | ptr d => simp [Rows.uptoBulk]
  | slice elems spare => simp [Rows.uptoBulk]
  | agg parts => simp [Rows.uptoBulk]
  | iface t d => simp [Rows.uptoBulk]
  | map entries => simp [Rows.uptoBulk]
  | held h => simp [Rows.uptoBulk]

theorem bulk_length {H : Type} (l : List (DataW H)) : l.length ≤ Rows.uptoBulkAll l := by
  induction l with
  | nil => simp [Rows.uptoBulkAll]
  | cons x r ih => have := bulk_one x; simp only [Rows.uptoBulkAll, List.length_cons]; omega

theorem bulk_slice {H : Type} (elems spare : List (DataW H)) (hk : Rows.uptoSmall H [.slice elems spare] = true) : elems.length ≤ 1048576 := by
  have h : Rows.uptoBulkAll [DataW.slice elems spare] ≤ 1048576 := of_decide_eq_true hk
  simp only [Rows.uptoBulkAll, Rows.uptoBulk] at h
  have h1 := bulk_length elems
  omega

theorem cell_lt {w : World} {b off : Nat} {v : Value} (h : w.cell? ⟨b, off, none⟩ = some v) : b < w.heap.size := by
  rcases Nat.lt_or_ge b w.heap.size with hlt | hge
  · exact hlt
  · simp [World.cell?, Array.getElem?_eq_none hge] at h

end Go.Proofs.Ytpnegofmebfcgaa

/- Slices that came in, opened: a row of things, each a fixed number of cells. -/
namespace Go.Proofs.Ytpnegofmebfcgaa
open Go.ChangeShapes Go.WideShapes Go.ChangeAt Go.RowKit
set_option maxRecDepth 50000

/-- a slice's things, as cells of w below block B -/
structure Rd {α : Type} (cells : α → List Value) (size : Nat) (w : World) (B : Nat) (A : Option Addr) (n : Nat) (xs : List α) : Prop where
  len : xs.length = n
  at_ : 0 < n → ∃ b off, A = some ⟨b, off, none⟩ ∧ b < B ∧ ∀ (i : Nat) (x : α), xs[i]? = some x → ∀ (j : Nat) (v : Value), (cells x)[j]? = some v → w.cell? ⟨b, off + i * size + j, none⟩ = some v

theorem Rd.below {α : Type} {cells : α → List Value} {size : Nat} {w w' : World} {B n : Nat} {A : Option Addr} {xs : List α} (h : Rd cells size w B A n xs) (hb : Below B w w') : Rd cells size w' B A n xs :=
  ⟨h.len, fun hn => by obtain ⟨b, off, e, hl, hc⟩ := h.at_ hn; exact ⟨b, off, e, hl, fun i x hx j v hv => (hb.cell (p := ⟨b, off + i * size + j, none⟩) hl).trans (hc i x hx j v hv)⟩⟩

theorem open_rows {α : Type} [Inhabited α] (cells : α → List Value) (ok : α → Prop) {T E : TypeId} {size : Nat} (hu : Try.prog.underlying T = some (.slice E)) (hC : Try.prog.cellsOf E = size) (h0 : 0 < size) (hz : ∀ a, (cells a).length = size)
    {H : Type} {enc : TypeId × Value → H} {W : World} {base : Nat} {v : Value} {d : DataW H} {ps : List MemPlace} {r : Reach} {b0 : Nat} {held : Bool} {sp : Nat → Bool}
    (hE : ∀ (fuel : Nat) (cs : List Value) (x : DataW H × List MemPlace), DataW.trod enc Try.prog W base sp held fuel E cs = some x → ∃ a, cs = cells a ∧ ok a)
    (hval : Value.okWide Try.prog W r b0 T v) (hd : DataW.Trod enc Try.prog W base sp held T v d ps) :
    ∃ A n c xs, v = .slice A n c ∧ n ≤ c ∧ Rd cells size W W.heap.size A n xs ∧ (∀ x ∈ xs, ok x) ∧ (n = 0 ∨ ∃ elems spare, d = .slice elems spare ∧ elems.length = n) := by
  obtain ⟨A, n, c, rfl⟩ := okWide_slice hu hval
  obtain ⟨fuel, hf⟩ := hd
  rcases Go.Deep.open_slice hu hf with ⟨h0, _⟩ | ⟨a, len, cap, m, k, D, Pl, hcs, hb, hl, hm, hmm, hx, hi⟩
  · simp only [Value.cells] at h0
    injection h0 with h0
    injection h0 with e1 e2 e3
    subst e1 e2 e3
    exact ⟨none, 0, 0, [], rfl, Nat.le_refl _, ⟨rfl, fun h => absurd h (by omega)⟩, (by intro p hp; cases hp), .inl rfl⟩
  · simp only [Value.cells] at hcs
    injection hcs with hcs
    injection hcs with e1 e2 e3
    subst e1 e2 e3
    have hd' : d = .slice ((List.range n).map D) ((List.range (m - n)).map fun j => D (n + j)) := by injection hx
    have hle : n ≤ m := by rw [hmm]; split <;> omega
    have key : ∀ i, i < n → ∃ p : α, ok p ∧ ∀ (j : Nat) (v : Value), (cells p)[j]? = some v → W.cell? ((a.add (i * size)).add j) = some v := fun i hi' => by
      obtain ⟨cs', hc, ht⟩ := hi i (by omega)
      rw [hC] at hc
      obtain ⟨x, rfl, hok⟩ := hE _ _ _ ht
      obtain ⟨_, _, hat⟩ := World.cells?_some hc
      refine ⟨x, hok, fun j v hv => ?_⟩
      have hj : j < size := by rw [← hz x]; exact (List.getElem?_eq_some_iff.1 hv).1
      rw [hat j hj]
      simpa using hv
    obtain ⟨f, hfn⟩ : ∃ f : Nat → α, ∀ i, i < n → ok (f i) ∧ ∀ (j : Nat) (v : Value), (cells (f i))[j]? = some v → W.cell? ((a.add (i * size)).add j) = some v :=
      ⟨fun i => if h : i < n then (key i h).choose else default, fun i h => by simp only [dif_pos h]; exact (key i h).choose_spec⟩
    clear key
    refine ⟨some a, n, c, (List.range n).map f, rfl, hl, ⟨by simp, fun hn => ?_⟩, ?_, .inr ⟨_, _, hd', by simp⟩⟩
    · have hc0 : ∃ v0, (cells (f 0))[0]? = some v0 := ⟨_, List.getElem?_eq_getElem (by rw [hz]; exact h0)⟩
      obtain ⟨v0, hv0⟩ := hc0
      have h00 := (hfn 0 hn).2 0 v0 hv0
      obtain ⟨b, off, spot⟩ := a
      have hspot : spot = none := by
        simpa [Addr.add] using World.cell?_spot h00
      subst hspot
      refine ⟨b, off, rfl, ?_, fun i p hp j v hv => ?_⟩
      · rw [Go.WideShapes.add_plain, Go.WideShapes.add_plain] at h00
        rcases Nat.lt_or_ge b W.heap.size with hlt | hge
        · exact hlt
        · simp [World.cell?, Array.getElem?_eq_none hge] at h00
      · have hi2 : i < n := by
          have := (List.getElem?_eq_some_iff.1 hp).1
          simpa using this
        rw [List.getElem?_map, List.getElem?_range hi2] at hp
        simp only [Option.map_some] at hp
        injection hp with hp
        subst hp
        have := (hfn i hi2).2 j v hv
        rw [Go.WideShapes.add_plain, Go.WideShapes.add_plain] at this
        exact this
    · intro p hp
      obtain ⟨i, hi1, rfl⟩ := List.mem_map.1 hp
      exact (hfn i (List.mem_range.1 hi1)).1

/-- a step of a script -/
structure OpV where
  who : Int
  kind : Int
  n : Int
  hs : Int
  hg : Int
  x : ByteArray
deriving Inhabited
def OpV.cells (o : OpV) : List Value := [.int .i64 o.who, .int .i64 o.kind, .int .i64 o.n, .int .i64 o.hs, .int .i64 o.hg, .string o.x]
def i64 (n : Int) : Prop := -9223372036854775808 ≤ n ∧ n ≤ 9223372036854775807
def OpV.ok (o : OpV) : Prop := i64 o.who ∧ i64 o.kind ∧ i64 o.n ∧ i64 o.hs ∧ i64 o.hg

section
variable {H : Type} {enc : TypeId × Value → H} {W : World} {base : Nat} {v : Value} {d : DataW H} {ps : List MemPlace} {r : Reach} {b0 : Nat} {held : Bool} {sp : Nat → Bool}
set_option maxRecDepth 50000 in
theorem int_cells {fuel : Nat} {cs : List Value} {x : DataW H × List MemPlace} (h : DataW.trod enc Try.prog W base sp held fuel 3 cs = some x) : ∃ n : Int, cs = [.int .i64 n] ∧ i64 n := by
  obtain ⟨n, e, rfl, w0⟩ := DataW.trod_int Try.underlying3 h
  exact ⟨n, e, bounds_i64 w0⟩
theorem handle_cells {fuel : Nat} {cs : List Value} {x : DataW H × List MemPlace} (h : DataW.trod enc Try.prog W base sp held fuel 32 cs = some x) : ∃ a b : Int, cs = [.int .i64 a, .int .i64 b] ∧ i64 a ∧ i64 b := by
  obtain ⟨y0, y1, n, rfl, hl, h0, h1⟩ := trod_struct2 Try.underlying32 h
  have hc : Try.prog.cellsOf 32 = 2 := by kernel_rfl
  have hc1 : Try.prog.cellsOf 3 = 1 := by kernel_rfl
  rw [hc] at hl
  match cs, hl with
  | [c0, c1], _ =>
    simp only [hc1] at h0 h1
    obtain ⟨a, e0, w0⟩ := int_cells h0
    obtain ⟨b, e1, w1⟩ := int_cells h1
    simp at e0 e1
    subst e0 e1
    exact ⟨a, b, rfl, w0, w1⟩
theorem list6 {α : Type} {cs : List α} (h : cs.length = 6) : ∃ c0 c1 c2 c3 c4 c5, cs = [c0, c1, c2, c3, c4, c5] := by
  match cs, h with
  | [c0, c1, c2, c3, c4, c5], _ => exact ⟨c0, c1, c2, c3, c4, c5, rfl⟩
theorem trod_struct5 {t : TypeId} {f0 f1 f2 f3 f4 : Field} {fuel : Nat} {cs : List Value} {x : DataW H × List MemPlace} (ht : Try.prog.underlying t = some (.struct #[f0, f1, f2, f3, f4])) (h : DataW.trod enc Try.prog W base sp held fuel t cs = some x) :
    ∃ y0 y1 y2 y3 y4 n, cs.length = Try.prog.cellsOf t ∧ DataW.trod enc Try.prog W base sp held n f0.type ((cs.drop f0.offset).take (Try.prog.cellsOf f0.type)) = some y0 ∧
      DataW.trod enc Try.prog W base sp held n f1.type ((cs.drop f1.offset).take (Try.prog.cellsOf f1.type)) = some y1 ∧ DataW.trod enc Try.prog W base sp held n f2.type ((cs.drop f2.offset).take (Try.prog.cellsOf f2.type)) = some y2 ∧
      DataW.trod enc Try.prog W base sp held n f3.type ((cs.drop f3.offset).take (Try.prog.cellsOf f3.type)) = some y3 ∧ DataW.trod enc Try.prog W base sp held n f4.type ((cs.drop f4.offset).take (Try.prog.cellsOf f4.type)) = some y4 := by
  obtain ⟨xs, n, _, rfl, hl, hlen, hf⟩ := DataW.trod_struct ht h
  match xs, hlen with
  | [y0, y1, y2, y3, y4], _ => exact ⟨y0, y1, y2, y3, y4, n, hl, by simpa using hf 0 f0 rfl, by simpa using hf 1 f1 rfl, by simpa using hf 2 f2 rfl, by simpa using hf 3 f3 rfl, by simpa using hf 4 f4 rfl⟩
theorem op_cells {fuel : Nat} {cs : List Value} {x : DataW H × List MemPlace} (h : DataW.trod enc Try.prog W base sp held fuel 67 cs = some x) : ∃ o : OpV, cs = o.cells ∧ o.ok := by
  obtain ⟨y0, y1, y2, y3, y4, n, hl, h0, h1, h2, h3, h4⟩ := trod_struct5 Try.underlying67 h
  have hc : Try.prog.cellsOf 67 = 6 := by kernel_rfl
  have hc1 : Try.prog.cellsOf 3 = 1 := by kernel_rfl
  have hc2 : Try.prog.cellsOf 32 = 2 := by kernel_rfl
  have hc3 : Try.prog.cellsOf 9 = 1 := by kernel_rfl
  rw [hc] at hl
  obtain ⟨c0, c1, c2, c3, c4, c5, rfl⟩ := list6 hl
  simp only [hc1, hc2, hc3] at h0 h1 h2 h3 h4
  obtain ⟨a0, e0, w0⟩ := int_cells h0
  obtain ⟨a1, e1, w1⟩ := int_cells h1
  obtain ⟨a2, e2, w2⟩ := int_cells h2
  obtain ⟨a3, a4, e3, w3, w4⟩ := handle_cells h3
  obtain ⟨s, e5, _, _⟩ := DataW.trod_string Try.underlying9 h4
  simp at e0 e1 e2 e3 e5
  obtain ⟨e3, e4⟩ := e3
  subst e0 e1 e2 e3 e4 e5
  exact ⟨⟨a0, a1, a2, a3, a4, s⟩, rfl, w0, w1, w2, w3, w4⟩
theorem open_ops (hval : Value.okWide Try.prog W r b0 52 v) (hd : DataW.Trod enc Try.prog W base sp held 52 v d ps) :
    ∃ A n c xs, v = .slice A n c ∧ n ≤ c ∧ Rd OpV.cells 6 W W.heap.size A n xs ∧ (∀ x ∈ xs, OpV.ok x) ∧ (n = 0 ∨ ∃ elems spare, d = .slice elems spare ∧ elems.length = n) :=
  open_rows OpV.cells OpV.ok Try.underlying52 (by kernel_rfl) (by decide) (fun _ => rfl) (fun _ _ _ h => op_cells h) hval hd
theorem open_ints (hval : Value.okWide Try.prog W r b0 22 v) (hd : DataW.Trod enc Try.prog W base sp held 22 v d ps) :
    ∃ A n c xs, v = .slice A n c ∧ n ≤ c ∧ Rd (fun k : Int => [.int .i64 k]) 1 W W.heap.size A n xs ∧ (∀ x ∈ xs, i64 x) ∧ (n = 0 ∨ ∃ elems spare, d = .slice elems spare ∧ elems.length = n) :=
  open_rows (size := 1) (fun k : Int => [.int .i64 k]) i64 Try.underlying22 (by kernel_rfl) (by decide) (fun _ => rfl) (fun _ _ _ h => int_cells h) hval hd
theorem open_strs (hval : Value.okWide Try.prog W r b0 74 v) (hd : DataW.Trod enc Try.prog W base sp held 74 v d ps) :
    ∃ A n c xs, v = .slice A n c ∧ n ≤ c ∧ Rd (fun k : ByteArray => [.string k]) 1 W W.heap.size A n xs ∧ (∀ x ∈ xs, True) ∧ (n = 0 ∨ ∃ elems spare, d = .slice elems spare ∧ elems.length = n) :=
  open_rows (size := 1) (fun k : ByteArray => [.string k]) (fun _ => True) Try.underlying74 (by kernel_rfl) (by decide) (fun _ => rfl) (fun _ _ _ h => by obtain ⟨s, e, _⟩ := DataW.trod_string Try.underlying9 h; exact ⟨s, e, trivial⟩) hval hd
end
end Go.Proofs.Ytpnegofmebfcgaa

/- What the second form's bound gives of a slice among what came in. -/
namespace Go.Proofs.Ytpnegofmebfcgaa
open Go.RowKit

theorem bulk_in {H : Type} : ∀ (l : List (DataW H)) (d : DataW H), d ∈ l → Rows.uptoBulk d ≤ Rows.uptoBulkAll l
  | [], d, h => by cases h
  | x :: r, d, h => by
    simp only [Rows.uptoBulkAll]
    rcases List.mem_cons.1 h with rfl | h
    · omega
    · have := bulk_in r d h; omega
theorem bulk_mem {H : Type} {ds : List (DataW H)} (elems spare : List (DataW H)) (hm : DataW.slice elems spare ∈ ds) (hk : Rows.uptoSmall H ds = true) : elems.length ≤ 1048576 := by
  have h : Rows.uptoBulkAll ds ≤ 1048576 := of_decide_eq_true hk
  have h1 := bulk_in ds _ hm
  simp only [Rows.uptoBulk] at h1
  have h2 := bulk_length elems
  omega
end Go.Proofs.Ytpnegofmebfcgaa

/- A nil slice that came in has no capacity. -/
namespace Go.Proofs.Ytpnegofmebfcgaa
open Go.ChangeShapes Go.WideShapes Go.ChangeAt Go.RowKit
set_option maxRecDepth 50000

theorem nil_cap {T E : TypeId} (hu : Try.prog.underlying T = some (.slice E)) {H : Type} {enc : TypeId × Value → H} {W : World} {base : Nat} {A : Option Addr} {n c : Nat} {d : DataW H} {ps : List MemPlace} {held : Bool} {sp : Nat → Bool}
    (hd : DataW.Trod enc Try.prog W base sp held T (.slice A n c) d ps) : A = none → c = 0 := by
  rintro rfl
  obtain ⟨fuel, hf⟩ := hd
  rcases Go.Deep.open_slice hu hf with ⟨h0, _⟩ | ⟨a, len, cap, m, k, D, Pl, hcs, _⟩
  · simp only [Value.cells] at h0
    injection h0 with h0
    injection h0
  · simp only [Value.cells] at hcs
    injection hcs with hcs
    injection hcs with e1 _ _
    cases e1
theorem cap_max {T E : TypeId} (hu : Try.prog.underlying T = some (.slice E)) {H : Type} {enc : TypeId × Value → H} {W : World} {base : Nat} {A : Option Addr} {n c : Nat} {d : DataW H} {ps : List MemPlace} {held : Bool} {sp : Nat → Bool}
    (hd : DataW.Trod enc Try.prog W base sp held T (.slice A n c) d ps) : c ≤ 9223372036854775807 := by
  obtain ⟨fuel, hf⟩ := hd
  rcases Go.Deep.open_slice hu hf with ⟨h0, _⟩ | ⟨a, len, cap, m, k, D, Pl, hcs, _, _, hm, _⟩
  · simp only [Value.cells] at h0
    injection h0 with h0
    injection h0 with _ _ e3
    omega
  · simp only [Value.cells] at hcs
    injection hcs with hcs
    injection hcs with _ _ e3
    rw [e3]
    exact hm
end Go.Proofs.Ytpnegofmebfcgaa

/- Slabs as lists of slots: a block of slots that is known whole. -/
namespace Go.Proofs.Ytpnegofmebfcgaa
open Go.RowKit

/-- what lies in a slot: its number as written there, the generation, whether it is full, the thing -/
structure SL where
  slot : Int
  gen : Int
  full : Bool
  x : Value

def SL.cells (s : SL) : List Value := [.int .i64 s.slot, .int .i64 s.gen, .bool s.full, s.x]
def flat : List SL → List Value
  | [] => []
  | s :: r => .int .i64 s.slot :: .int .i64 s.gen :: .bool s.full :: s.x :: flat r

theorem flat_length : ∀ l : List SL, (flat l).length = l.length * 4
  | [] => rfl
  | _ :: r => by simp only [flat, List.length_cons, flat_length r]; omega
theorem flat_get : ∀ (l : List SL) (i : Nat) (s : SL), l[i]? = some s →
    (flat l)[i * 4]? = some (.int .i64 s.slot) ∧ (flat l)[i * 4 + 1]? = some (.int .i64 s.gen) ∧ (flat l)[i * 4 + 2]? = some (.bool s.full) ∧ (flat l)[i * 4 + 3]? = some s.x
  | [], i, s, h => by simp at h
  | q :: r, 0, s, h => by simp at h; subst h; exact ⟨rfl, rfl, rfl, rfl⟩
  | q :: r, i + 1, s, h => by
    have := flat_get r i s (by simpa using h)
    have e : (i + 1) * 4 = i * 4 + 1 + 1 + 1 + 1 := by omega
    rw [e]
    simpa [flat] using this
theorem flat_set : ∀ (l : List SL) (i : Nat) (s t : SL), l[i]? = some s →
    flat (l.set i t) = ((((flat l).set (i * 4) (.int .i64 t.slot)).set (i * 4 + 1) (.int .i64 t.gen)).set (i * 4 + 2) (.bool t.full)).set (i * 4 + 3) t.x
  | [], i, s, t, h => by simp at h
  | q :: r, 0, s, t, h => rfl
  | q :: r, i + 1, s, t, h => by
    have := flat_set r i s t (by simpa using h)
    have e : (i + 1) * 4 = i * 4 + 1 + 1 + 1 + 1 := by omega
    rw [e]
    simp [flat, this]

/-- pointer block ps holds the slice of block g, which is just the slots l (element type T) -/
structure SlabAt (T : TypeId) (w : World) (ps g : Nat) (l : List SL) : Prop where
  ptr : w.cell? ⟨ps, 0, none⟩ = some (.slice (some ⟨g, 0, none⟩) l.length l.length)
  blk : w.heap[g]? = some (.cells (flat l).toArray T (0, 0))
  ne : ps ≠ g

section
variable {T : TypeId} {w w' : World} {ps g : Nat} {l : List SL}
theorem SlabAt.cell (h : SlabAt T w ps g l) (i : Nat) : w.cell? ⟨g, i, none⟩ = (flat l)[i]? := by
  rw [cell_of_row w g i _ T (0, 0) h.blk]; simp
theorem SlabAt.at (h : SlabAt T w ps g l) {i : Nat} {s : SL} (hs : l[i]? = some s) :
    w.cell? ⟨g, i * 4, none⟩ = some (.int .i64 s.slot) ∧ w.cell? ⟨g, i * 4 + 1, none⟩ = some (.int .i64 s.gen) ∧ w.cell? ⟨g, i * 4 + 2, none⟩ = some (.bool s.full) ∧ w.cell? ⟨g, i * 4 + 3, none⟩ = some s.x := by
  obtain ⟨a, b, c, d⟩ := flat_get l i s hs
  rw [h.cell, h.cell, h.cell, h.cell]
  exact ⟨a, b, c, d⟩
theorem SlabAt.frozen (h : SlabAt T w ps g l) (i : Nat) : w.frozen? ⟨g, i, none⟩ = false := by
  have := h.blk
  simp [World.frozen?, this]
theorem SlabAt.gl (h : SlabAt T w ps g l) : g < w.heap.size := by
  rcases Nat.lt_or_ge g w.heap.size with hlt | hge
  · exact hlt
  · have := h.blk; rw [Array.getElem?_eq_none hge] at this; cases this
theorem SlabAt.pl (h : SlabAt T w ps g l) : ps < w.heap.size := World.block_lt_of_cell? w _ h.ptr
theorem SlabAt.below (h : SlabAt T w ps g l) (hb : Below w.heap.size w w') : SlabAt T w' ps g l :=
  ⟨(hb.cell (p := ⟨ps, 0, none⟩) h.pl).trans h.ptr, (hb.block g h.gl).trans h.blk, h.ne⟩
theorem SlabAt.alloc (h : SlabAt T w ps g l) (o : Obj) : SlabAt T (w.alloc o) ps g l := h.below ((Below.refl w.heap.size w).alloc (Nat.le_refl _) o)
/-- one slot written whole -/
theorem SlabAt.put (h : SlabAt T w ps g l) {i : Nat} {s : SL} (hs : l[i]? = some s) (t : SL) :
    SlabAt T ((((w.setCell ⟨g, i * 4, none⟩ (.int .i64 t.slot)).setCell ⟨g, i * 4 + 1, none⟩ (.int .i64 t.gen)).setCell ⟨g, i * 4 + 2, none⟩ (.bool t.full)).setCell ⟨g, i * 4 + 3, none⟩ t.x) ps g (l.set i t) := by
  have hb := h.blk
  refine ⟨?_, ?_, h.ne⟩
  · have e : ∀ (u : World) (k : Nat) (v : Value), (u.setCell ⟨g, k, none⟩ v).cell? ⟨ps, 0, none⟩ = u.cell? ⟨ps, 0, none⟩ := fun u k v => World.cell?_setCell_other u _ _ v (fun e => h.ne (by injection e with e1; exact e1.symm))
    rw [e, e, e, e, h.ptr, List.length_set]
  · rw [flat_set l i s t hs]
    simp [World.setCell, Array.getElem?_modify, hb]
end
end Go.Proofs.Ytpnegofmebfcgaa

/- Slabs, with no program in sight: handles told, and which of them still stand for something. -/
namespace Go.Proofs.Ytpnegofmebfcgaa
open Go.RowKit

theorem first_free : ∀ l : List SL, (l.filter (·.full)).length < l.length → ∃ (i : Nat) (s : SL), l[i]? = some s ∧ s.full = false ∧ ∀ (j : Nat) (t : SL), j < i → l[j]? = some t → t.full = true
  | [], h => by simp at h
  | s :: r, h => by
    cases hs : s.full with
    | false => exact ⟨0, s, rfl, hs, fun j t hj => absurd hj (Nat.not_lt_zero j)⟩
    | true =>
      rw [List.filter_cons, if_pos hs, List.length_cons, List.length_cons] at h
      obtain ⟨i, t, h1, h2, h3⟩ := first_free r (by omega)
      refine ⟨i + 1, t, by simpa using h1, h2, fun j u hj hu => ?_⟩
      match j with
      | 0 => simp at hu; subst hu; exact hs
      | j + 1 => exact h3 j u (by omega) (by simpa using hu)
theorem all_full : ∀ l : List SL, ¬ (l.filter (·.full)).length < l.length → ∀ (j : Nat) (t : SL), l[j]? = some t → t.full = true
  | [], _, j, t, ht => by simp at ht
  | s :: r, h, j, t, ht => by
    have hle := List.length_filter_le (fun x : SL => x.full) r
    cases hs : s.full with
    | false => rw [List.filter_cons, if_neg (by rw [hs]; decide), List.length_cons] at h; omega
    | true =>
      rw [List.filter_cons, if_pos hs, List.length_cons, List.length_cons] at h
      match j with
      | 0 => simp at ht; subst ht; exact hs
      | j + 1 => exact all_full r (by omega) j t (by simpa using ht)
theorem count_set : ∀ (l : List SL) (i : Nat) (s t : SL), l[i]? = some s →
    ((l.set i t).filter (·.full)).length + (if s.full then 1 else 0) = (l.filter (·.full)).length + (if t.full then 1 else 0)
  | [], i, s, t, h => by simp at h
  | q :: r, 0, s, t, h => by
    simp at h; subst h
    rw [List.set_cons_zero, List.filter_cons, List.filter_cons]
    cases hq : q.full <;> cases ht : t.full <;> simp
  | q :: r, i + 1, s, t, h => by
    have := count_set r i s t (by simpa using h)
    rw [List.set_cons_succ, List.filter_cons, List.filter_cons]
    cases hq : q.full <;> simp <;> omega

/-- The handles that a slab has told, and whether each still stands for its thing. -/
structure OInv (l : List SL) (told : List (Int × Int)) (here : List Bool) : Prop where
  len : here.length = told.length
  slot : ∀ (j : Nat) (t : SL), l[j]? = some t → 0 ≤ t.gen ∧ t.gen ≤ told.length ∧ (∃ b : Int, t.x = .int .i64 b) ∧ (t.full = true → t.slot = j)
  at_ : ∀ (k : Nat) (p : Int × Int), told[k]? = some p → ∃ (j : Nat) (t : SL), p.1 = j ∧ l[j]? = some t ∧ p.2 ≤ t.gen ∧ here[k]? = some (t.full && decide (t.gen = p.2))
  nodup : ∀ k k' : Nat, ∀ p, told[k]? = some p → told[k']? = some p → k = k'

theorem OInv.start (S : Nat) : OInv (List.replicate S ⟨0, 0, false, .int .i64 0⟩) [] [] where
  len := rfl
  slot := fun j t h => by
    rw [List.getElem?_replicate] at h
    split at h
    · cases h; exact ⟨Int.le_refl _, Int.le_refl _, ⟨0, rfl⟩, fun h => by cases h⟩
    · cases h
  at_ := fun k p h => by simp at h
  nodup := fun k k' p h => by simp at h

section
variable {l : List SL} {told : List (Int × Int)} {here : List Bool}
/-- the handle that Put tells is none that it has told -/
theorem OInv.new (h : OInv l told here) {i : Nat} {s : SL} (hs : l[i]? = some s) (k : Nat) (p : Int × Int) (hp : told[k]? = some p) : p ≠ ((i : Int), s.gen + 1) := by
  rintro rfl
  obtain ⟨j, t, e, ht, hg, _⟩ := h.at_ k _ hp
  simp only at e hg
  obtain rfl : i = j := by omega
  rw [hs] at ht; cases ht
  omega
/-- nothing that is told of the slot that Put takes stands for anything -/
theorem OInv.gone (h : OInv l told here) {i : Nat} {s : SL} (hs : l[i]? = some s) (hf : s.full = false) (k : Nat) (p : Int × Int) (hp : told[k]? = some p) (e1 : p.1 = i) : here[k]? = some false := by
  obtain ⟨j, t, e, ht, hg, hh⟩ := h.at_ k _ hp
  obtain rfl : i = j := by omega
  rw [hs] at ht; cases ht
  rw [hh, hf]; rfl
theorem OInv.put (h : OInv l told here) {i : Nat} {s : SL} (hs : l[i]? = some s) (hf : s.full = false) (b : Int) :
    OInv (l.set i ⟨i, s.gen + 1, true, .int .i64 b⟩) (told ++ [((i : Int), s.gen + 1)]) (here ++ [true]) where
  len := by rw [List.length_append, List.length_append, h.len]; rfl
  slot := fun j t ht => by
    have hi : i < l.length := (List.getElem?_eq_some_iff.1 hs).1
    rw [List.length_append, List.length_singleton]
    by_cases e : i = j
    · subst e
      rw [List.getElem?_set, if_pos rfl, if_pos hi] at ht; cases ht
      obtain ⟨h1, h2, _⟩ := h.slot i s hs
      exact ⟨by show 0 ≤ s.gen + 1; omega, by show s.gen + 1 ≤ _; omega, ⟨b, rfl⟩, fun _ => rfl⟩
    · rw [List.getElem?_set, if_neg e] at ht
      obtain ⟨h1, h2, h3, h4⟩ := h.slot j t ht
      exact ⟨h1, by omega, h3, h4⟩
  at_ := fun k p hp => by
    have hi : i < l.length := (List.getElem?_eq_some_iff.1 hs).1
    by_cases hk : k < told.length
    · rw [List.getElem?_append_left hk] at hp
      obtain ⟨j, t, e, ht, hg, hh⟩ := h.at_ k _ hp
      rw [List.getElem?_append_left (by rw [h.len]; exact hk)]
      by_cases e2 : i = j
      · subst e2
        rw [hs] at ht; cases ht
        refine ⟨i, _, e, by rw [List.getElem?_set, if_pos rfl, if_pos hi], by show p.2 ≤ s.gen + 1; omega, ?_⟩
        rw [hh, hf]
        have hne : ¬ s.gen + 1 = p.2 := by omega
        simp [hne]
      · exact ⟨j, t, e, by rw [List.getElem?_set, if_neg e2]; exact ht, hg, hh⟩
    · have hk2 : k = told.length := by
        have := (List.getElem?_eq_some_iff.1 hp).1
        rw [List.length_append, List.length_singleton] at this; omega
      subst hk2
      rw [List.getElem?_append_right (Nat.le_refl _), Nat.sub_self] at hp
      cases hp
      refine ⟨i, _, rfl, by rw [List.getElem?_set, if_pos rfl, if_pos hi], Int.le_refl _, ?_⟩
      rw [List.getElem?_append_right (by rw [h.len]; exact Nat.le_refl _), h.len, Nat.sub_self]
      simp
  nodup := fun k k' p hp hp' => by
    by_cases hk : k < told.length
    · rw [List.getElem?_append_left hk] at hp
      by_cases hk' : k' < told.length
      · rw [List.getElem?_append_left hk'] at hp'
        exact h.nodup k k' p hp hp'
      · exfalso
        rw [List.getElem?_append_right (by omega)] at hp'
        have : p = ((i : Int), s.gen + 1) := by
          cases hd : k' - told.length with
          | zero => rw [hd] at hp'; cases hp'; rfl
          | succ d => rw [hd] at hp'; simp at hp'
        exact h.new hs k p hp this
    · by_cases hk' : k' < told.length
      · exfalso
        rw [List.getElem?_append_left hk'] at hp'
        rw [List.getElem?_append_right (by omega)] at hp
        have : p = ((i : Int), s.gen + 1) := by
          cases hd : k - told.length with
          | zero => rw [hd] at hp; cases hp; rfl
          | succ d => rw [hd] at hp; simp at hp
        exact h.new hs k' p hp' this
      · have h1 := (List.getElem?_eq_some_iff.1 hp).1
        have h2 := (List.getElem?_eq_some_iff.1 hp').1
        rw [List.length_append, List.length_singleton] at h1 h2
        omega
/-- a thing dropped -/
theorem OInv.drop (h : OInv l told here) {k : Nat} {p : Int × Int} (hp : told[k]? = some p) {j : Nat} {t : SL} (e : p.1 = j) (ht : l[j]? = some t) (hg : t.gen = p.2) (z : Int) :
    OInv (l.set j { t with full := false, x := .int .i64 z }) told (here.set k false) where
  len := by rw [List.length_set]; exact h.len
  slot := fun i u hu => by
    have hj : j < l.length := (List.getElem?_eq_some_iff.1 ht).1
    by_cases e2 : j = i
    · subst e2
      rw [List.getElem?_set, if_pos rfl, if_pos hj] at hu; cases hu
      obtain ⟨h1, h2, _⟩ := h.slot j t ht
      exact ⟨h1, h2, ⟨z, rfl⟩, fun h => by cases h⟩
    · rw [List.getElem?_set, if_neg e2] at hu
      exact h.slot i u hu
  at_ := fun k' p' hp' => by
    have hj : j < l.length := (List.getElem?_eq_some_iff.1 ht).1
    obtain ⟨i, u, e', hu, hg', hh⟩ := h.at_ k' p' hp'
    by_cases e2 : j = i
    · subst e2
      rw [ht] at hu; cases hu
      refine ⟨j, { t with full := false, x := .int .i64 z }, e', by rw [List.getElem?_set, if_pos rfl, if_pos hj], hg', ?_⟩
      by_cases e3 : k = k'
      · subst e3
        rw [List.getElem?_set, if_pos rfl, if_pos (List.getElem?_eq_some_iff.1 hh).1]; rfl
      · rw [List.getElem?_set, if_neg e3, hh]
        have : ¬ t.gen = p'.2 := fun h3 => e3 (h.nodup k k' p hp (by rw [hp']; congr 1; apply Prod.ext <;> omega))
        simp [this]
    · refine ⟨i, u, e', by rw [List.getElem?_set, if_neg e2]; exact hu, hg', ?_⟩
      by_cases e3 : k = k'
      · subst e3
        rw [hp] at hp'; cases hp'
        omega
      · rw [List.getElem?_set, if_neg e3]; exact hh
  nodup := h.nodup
/-- a thing put in another's place -/
theorem OInv.setx (h : OInv l told here) {j : Nat} {t : SL} (ht : l[j]? = some t) (z : Int) : OInv (l.set j { t with x := .int .i64 z }) told here where
  len := h.len
  slot := fun i u hu => by
    have hj : j < l.length := (List.getElem?_eq_some_iff.1 ht).1
    by_cases e2 : j = i
    · subst e2
      rw [List.getElem?_set, if_pos rfl, if_pos hj] at hu; cases hu
      obtain ⟨h1, h2, _, h4⟩ := h.slot j t ht
      exact ⟨h1, h2, ⟨z, rfl⟩, h4⟩
    · rw [List.getElem?_set, if_neg e2] at hu
      exact h.slot i u hu
  at_ := fun k p hp => by
    have hj : j < l.length := (List.getElem?_eq_some_iff.1 ht).1
    obtain ⟨i, u, e', hu, hg', hh⟩ := h.at_ k p hp
    by_cases e2 : j = i
    · subst e2
      rw [ht] at hu; cases hu
      exact ⟨j, { t with x := .int .i64 z }, e', by rw [List.getElem?_set, if_pos rfl, if_pos hj], hg', hh⟩
    · exact ⟨i, u, e', by rw [List.getElem?_set, if_neg e2]; exact hu, hg', hh⟩
  nodup := h.nodup
end
theorem set_same {α : Type} : ∀ (l : List α) (k : Nat) (a : α), l[k]? = some a → l.set k a = l
  | [], k, a, h => by simp at h
  | b :: r, 0, a, h => by simp at h; subst h; rfl
  | b :: r, k + 1, a, h => by rw [List.set_cons_succ, set_same r k a (by simpa using h)]
end Go.Proofs.Ytpnegofmebfcgaa

/- Slabs: writing parts of a slot; worlds grown but for one block. -/
namespace Go.Proofs.Ytpnegofmebfcgaa
open Go.RowKit

theorem below_grown {w w' : World} {row : Option Nat} (h : Below w.heap.size w w') : w.grownBy w' row :=
  ⟨h.os, h.tape, h.output, h.size, fun k hk _ => h.block k hk⟩
theorem grownBy_set (w : World) (g i : Nat) (v : Value) : w.grownBy (w.setCell ⟨g, i, none⟩ v) (some g) :=
  ⟨rfl, rfl, rfl, by simp, fun k _ hne => Below.heap_setCell w ⟨g, i, none⟩ v k (fun e => hne (by rw [e]))⟩

theorem flat_drop : ∀ (l : List SL) (i : Nat) (s : SL) (z : Value), l[i]? = some s →
    flat (l.set i { s with full := false, x := z }) = ((flat l).set (i * 4 + 3) z).set (i * 4 + 2) (.bool false)
  | [], i, s, z, h => by simp at h
  | q :: r, 0, s, z, h => by simp at h; subst h; rfl
  | q :: r, i + 1, s, z, h => by
    have := flat_drop r i s z (by simpa using h)
    have e : (i + 1) * 4 = i * 4 + 1 + 1 + 1 + 1 := by omega
    rw [e]
    simp [flat, this]
theorem flat_x : ∀ (l : List SL) (i : Nat) (s : SL) (z : Value), l[i]? = some s → flat (l.set i { s with x := z }) = (flat l).set (i * 4 + 3) z
  | [], i, s, z, h => by simp at h
  | q :: r, 0, s, z, h => by simp at h; subst h; rfl
  | q :: r, i + 1, s, z, h => by
    have := flat_x r i s z (by simpa using h)
    have e : (i + 1) * 4 = i * 4 + 1 + 1 + 1 + 1 := by omega
    rw [e]
    simp [flat, this]

section
variable {T : TypeId} {w : World} {ps g : Nat} {l : List SL}
theorem SlabAt.ptr_set (h : SlabAt T w ps g l) (u : World) (k : Nat) (v : Value) : (u.setCell ⟨g, k, none⟩ v).cell? ⟨ps, 0, none⟩ = u.cell? ⟨ps, 0, none⟩ :=
  World.cell?_setCell_other u _ _ v (fun e => h.ne (by injection e with e1; exact e1.symm))
theorem SlabAt.drop (h : SlabAt T w ps g l) {i : Nat} {s : SL} (hs : l[i]? = some s) (z : Value) :
    SlabAt T ((w.setCell ⟨g, i * 4 + 3, none⟩ z).setCell ⟨g, i * 4 + 2, none⟩ (.bool false)) ps g (l.set i { s with full := false, x := z }) := by
  have hb := h.blk
  refine ⟨?_, ?_, h.ne⟩
  · rw [h.ptr_set, h.ptr_set, h.ptr, List.length_set]
  · rw [flat_drop l i s z hs]
    simp [World.setCell, Array.getElem?_modify, hb]
theorem SlabAt.setx (h : SlabAt T w ps g l) {i : Nat} {s : SL} (hs : l[i]? = some s) (z : Value) :
    SlabAt T (w.setCell ⟨g, i * 4 + 3, none⟩ z) ps g (l.set i { s with x := z }) := by
  have hb := h.blk
  refine ⟨?_, ?_, h.ne⟩
  · rw [h.ptr_set, h.ptr, List.length_set]
  · rw [flat_x l i s z hs]
    simp [World.setCell, Array.getElem?_modify, hb]
theorem SlabAt.far (h : SlabAt T w ps g l) {B : Nat} (h1 : B ≠ ps) (h2 : g ≠ B) (i : Nat) (v : Value) : SlabAt T (w.setCell ⟨B, i, none⟩ v) ps g l :=
  ⟨(World.cell?_setCell_other w _ _ v (fun e => h1 (by injection e with e1))).trans h.ptr, (Below.heap_setCell w ⟨B, i, none⟩ v g h2).trans h.blk, h.ne⟩
end
theorem grownBy_new {w u : World} {row : Option Nat} (h : w.grownBy u row) {B : Nat} (hB : w.heap.size ≤ B) (i : Nat) (v : Value) : w.grownBy (u.setCell ⟨B, i, none⟩ v) row :=
  ⟨h.os, h.tape, h.output, by simpa using h.size, fun k hk hne => (Below.heap_setCell u ⟨B, i, none⟩ v k (by show k ≠ B; omega)).trans (h.block k hk hne)⟩
end Go.Proofs.Ytpnegofmebfcgaa

/- Slabs: what a call that writes the slab alone, or nothing, leaves. -/
namespace Go.Proofs.Ytpnegofmebfcgaa
open Go.RowKit

theorem grown_below' {w w' : World} {g n0 : Nat} (h : w.grownBy w' (some g)) (hg : n0 ≤ g) (_ : n0 ≤ w.heap.size) : Below n0 w w' :=
  ⟨h.os, h.tape, h.output, h.size, fun k hk => h.block k (by omega) (by intro e; cases e; omega)⟩
/-- a call answers v, and writes the slab's block alone, which then holds l -/
def Turns (T : TypeId) (ps g : Nat) (v : Value) (l : List SL) (w : World) : Ending → World → Prop := fun e w' => e = .returned v ∧ w.grownBy w' (some g) ∧ SlabAt T w' ps g l
theorem Calls.turns {P : Program} {f : FuncId} {args : Array Value} {w : World} {v : Value} {T : TypeId} {ps g : Nat} {l : List SL} (hS : SlabAt T w ps g l) (h : Calls P f args w (Gives v w)) : Calls P f args w (Turns T ps g v l w) :=
  h.mono fun _ _ ⟨he, y, hy⟩ => ⟨he, hy ▸ below_grown y.h, hy ▸ hS.below y.h⟩
theorem Calls.turns_keeps {P : Program} {f : FuncId} {args : Array Value} {w : World} {v : Value} {T : TypeId} {ps g : Nat} {l : List SL} (hS : SlabAt T w ps g l) (h : Calls P f args w (Keeps v w)) : Calls P f args w (Turns T ps g v l w) :=
  h.mono fun _ _ ⟨he, hy⟩ => ⟨he, hy ▸ below_grown (Below.refl _ _), hy ▸ hS⟩
end Go.Proofs.Ytpnegofmebfcgaa

/- What a round of a range over a slab keeps: every block of slots but the slab's own. -/
namespace Go.Proofs.Ytpnegofmebfcgaa
open Go.RowKit Go.Shelf

/-- blocks of element type T other than g stay -/
structure KT (T : TypeId) (g : Nat) (W W' : World) : Prop where
  size : W.heap.size ≤ W'.heap.size
  same : ∀ (k : Nat) (cur : Array Value) (fr : Nat × Nat), k ≠ g → W.heap[k]? = some (.cells cur T fr) → W'.heap[k]? = some (.cells cur T fr)

theorem KT.refl (T : TypeId) (g : Nat) (W : World) : KT T g W W := ⟨Nat.le_refl _, fun _ _ _ _ h => h⟩
theorem KT.trans {T : TypeId} {g : Nat} {A B C : World} (h : KT T g A B) (k : KT T g B C) : KT T g A C :=
  ⟨Nat.le_trans h.size k.size, fun i cur fr hi hh => k.same i cur fr hi (h.same i cur fr hi hh)⟩
theorem KT.grown {T : TypeId} {g : Nat} {W W' : World} {row : Option Nat} (h : W.grownBy W' row) (hr : ∀ k, row = some k → k = g ∨ ∀ cur fr, W.heap[k]? ≠ some (.cells cur T fr)) : KT T g W W' :=
  ⟨h.size, fun k cur fr hk hh => by
    have hlt : k < W.heap.size := (Array.getElem?_eq_some_iff.1 hh).1
    refine (h.block k hlt (fun e => ?_)).trans hh
    rcases hr k e.symm with h1 | h1
    · exact hk h1
    · exact h1 cur fr hh⟩
theorem KT.putObj {T : TypeId} {g : Nat} {w : World} (W : World) (l : Nat) (o o' : Obj) (_ : w.heap.size ≤ l) (h : W.heap[l]? = some o) (hc : o.isCells = false) (_ : o.isWalk = false) : KT T g W (W.putObj l o') :=
  KT.grown (grownBy_putObj' W l o') (fun k e => by
    cases e
    exact .inr fun cur fr h2 => by rw [h] at h2; cases h2; cases hc)
theorem KT.below {T : TypeId} {g : Nat} {W W' : World} (h : Below W.heap.size W W') : KT T g W W' := KT.grown (row := none) (below_grown h) (fun k e => by cases e)
theorem KT.set {T : TypeId} {g : Nat} {W : World} {B i : Nat} {v : Value} (h : B = g ∨ ∀ cur fr, W.heap[B]? ≠ some (.cells cur T fr)) : KT T g W (W.setCell ⟨B, i, none⟩ v) :=
  KT.grown (grownBy_set W B i v) (fun k e => by cases e; exact h)
end Go.Proofs.Ytpnegofmebfcgaa

/- A region that draws its order, in a round of a range over a function: one walk, in the text's order. -/
namespace Go.Proofs.Ytpnegofmebfcgaa
open Go.RowKit

def noDefer (l : List Oper) : Bool := l.all fun o => match o.op with
  | .defer _ => false
  | _ => true
theorem noDefer_at {l : List Oper} (h : noDefer l = true) {o : Oper} (ho : o ∈ l) : ∀ c, o.op ≠ .defer c := fun c e => by
  have := List.all_eq_true.1 h o ho
  rw [e] at this; cases this

section
variable {F : Fence} {n : Nat} {P : Program} {ops : Array Oper} {md : Region.Mode} {C : World → Prop}
theorem quiet_op_round {o : Oper} (hnd : ∀ c, o.op ≠ .defer c) {a : Act} {K : Act → Prop} {K' : Act → World → Prop} {Q' : Exit → Act → World → Prop} {w : World} (hw : C w) (h : ∀ a w', C w' → K a → K' a w')
    (ha : o.askedIn F P a C) (hh : o.quietIn F n P a C K) : o.wpIn F n P a w K' Q' := by
  obtain ⟨v, h1, h2⟩ := hh
  have h3 := h1 w hw
  refine ⟨ha w hw, ?_⟩
  rw [Oper.semAt_eq _ _ _ hnd]
  unfold Oper.quietAtIn at h3
  cases hr : (execOp a.eval o).run P w with
  | halt x w' => rw [hr] at h3; exact h3.elim
  | ok x w' =>
    rw [hr] at h3
    cases x with
    | value u => obtain ⟨rfl, rfl⟩ := h3; exact h _ _ hw h2
    | skip => obtain ⟨rfl, rfl⟩ := h3; exact h _ _ hw h2
    | enter f args => obtain ⟨rfl, hd, hc⟩ := h3; exact ⟨hd, hc.mono fun e w'' ⟨he, hw''⟩ => by subst he; exact h _ _ hw'' h2⟩
    | _ => exact h3.elim
theorem quiet_at_round {i : Nat} (hnd : ∀ o, ops[i]? = some o → ∀ c, o.op ≠ .defer c) {a : Act} {K : Act → Prop} {K' : Act → World → Prop} {Q' : Exit → Act → World → Prop} {w : World} (hC : C w) (h : ∀ a w', C w' → K a → K' a w')
    (hh : qOpIn F n P ops C i K a) : wpOpIn F n P ops Q' i K' a w := by
  unfold qOpIn at hh
  unfold wpOpIn
  cases ho : ops[i]? with
  | none => simp only [ho] at hh ⊢; exact h _ _ hC hh
  | some o =>
    simp only [ho] at hh ⊢
    obtain ⟨ha, hh⟩ := hh
    cases hw : Region.wanted o (yielded ops a.tmps) with
    | true => simp only [hw, if_true] at hh ⊢; exact quiet_op_round (hnd o ho) hC h ha hh
    | false => simp only [hw, Bool.false_eq_true, if_false] at hh ⊢; exact ⟨ha w hC, h _ _ hC hh⟩
theorem quiet_any_round (hnd : ∀ (i : Nat) o, ops[i]? = some o → ∀ c, o.op ≠ .defer c) {Q : Act → Prop} {Q' : Exit → Act → World → Prop} (hQ : ∀ a w, C w → Q a → Q' .normal a w) : ∀ (fuel : Nat) (listed : Array Bool) (a : Act) (w : World), C w →
    wpAnyQIn F n P md ops C Q fuel listed a → wpAnyIn F n P md ops Q' fuel listed a w
  | 0, _, _, _, hw, h => ⟨h.1, hQ _ _ hw h.2⟩
  | fuel + 1, _, _, _, hw, h => ⟨fun h0 => hQ _ _ hw (h.1 h0), fun i hi => quiet_at_round (hnd i) hw (fun a' w' hw' => quiet_any_round hnd hQ fuel _ a' w' hw') (h.2 i hi)⟩

/-- One walk of the text's order serves every order, in a round too. -/
theorem wpIn_region_round {id : Nat} {Q : Exit → Act → World → Prop} {a : Act} {w : World} {l : List Oper} (hnd : noDefer l = true) (hm : P.follows .mixedOrders = true) (hB : Region.lexB .any l.toArray = true) (hC : C { w with drawn := w.drawn + 1 })
    (h : wpQuietIn F n P l.toArray C (fun a' => ∀ w', C w' → Q .normal a' w') l a) : (Code.region id l.toArray true).wpIn F n P Q a w := by
  simp only [Region.lexB, Bool.and_eq_true] at hB
  refine wpIn_region_any hm (quiet_any_round (Q := fun a' => ∀ w', C w' → Q .normal a' w') (fun i o ho => noDefer_at hnd (by
    have := Array.mem_of_getElem? ho
    simpa using this)) (fun _ w' hw' h => h w' hw') _ _ _ _ hC ?_)
  have := wpAnyQIn_lex (F := F) (n := n) (C := C) (md := .any) hB.1 l.toArray.toList 0 (Array.replicate l.toArray.size false) a (by simp) (by simpa using hB.2) (by simpa using h)
  simpa using this
/-- The class of worlds that have only grown. -/
theorem wpIn_region_bw_round {id : Nat} {Q : Exit → Act → World → Prop} {a : Act} {w : World} {l : List Oper} (B : Nat) (W : World) (hw : Below B W w) (hnd : noDefer l = true) (hm : P.follows .mixedOrders = true) (hB : Region.lexB .any l.toArray = true)
    (h : wpQuietIn F n P l.toArray (fun w' => ∃ x : BW B W, w' = x.i) (fun a' => ∀ x : BW B W, Q .normal a' x.i) l a) : (Code.region id l.toArray true).wpIn F n P Q a w :=
  wpIn_region_round (C := fun w' => ∃ x : BW B W, w' = x.i) hnd hm hB ⟨⟨{ w with drawn := w.drawn + 1 }, hw.drew⟩, rfl⟩
    (by
      have e : (fun a' => ∀ w', (∃ x : BW B W, w' = x.i) → Q .normal a' w') = fun a' => ∀ x : BW B W, Q .normal a' x.i := by
        funext a'
        exact propext ⟨fun h x => h _ ⟨x, rfl⟩, fun h w' ⟨x, hx⟩ => hx ▸ h x⟩
      rw [e]
      exact h)
end
end Go.Proofs.Ytpnegofmebfcgaa

/- Memory of a law that keeps handles and marks of its own beside a slab. -/
namespace Go.Proofs.Ytpnegofmebfcgaa
open Go.RowKit

def hcells : List (Int × Int) → List Value
  | [] => []
  | p :: r => .int .i64 p.1 :: .int .i64 p.2 :: hcells r
theorem hcells_app (a b : List (Int × Int)) : hcells (a ++ b) = hcells a ++ hcells b := by
  induction a with
  | nil => rfl
  | cons p r ih => simp [hcells, ih]
theorem hcells_len : ∀ a : List (Int × Int), (hcells a).length = a.length * 2
  | [] => rfl
  | _ :: r => by simp only [hcells, List.length_cons, hcells_len r]; omega
theorem hcells_at : ∀ (a : List (Int × Int)) (i : Nat) (p : Int × Int), a[i]? = some p → (hcells a)[i * 2]? = some (.int .i64 p.1) ∧ (hcells a)[i * 2 + 1]? = some (.int .i64 p.2)
  | [], i, p, h => by simp at h
  | q :: r, 0, p, h => by simp at h; subst h; exact ⟨rfl, rfl⟩
  | q :: r, i + 1, p, h => by
    have := hcells_at r i p (by simpa using h)
    have e : (i + 1) * 2 = i * 2 + 1 + 1 := by omega
    rw [e]
    simpa [hcells] using this

theorem SlabAt.grown {T : TypeId} {w w' : World} {ps g : Nat} {l : List SL} {row : Option Nat} (h : SlabAt T w ps g l) (hg : w.grownBy w' row) (h1 : row ≠ some ps) (h2 : row ≠ some g) : SlabAt T w' ps g l :=
  ⟨(hg.cell_far ⟨ps, 0, none⟩ h.pl (fun e => h1 e.symm)).trans h.ptr, (hg.block g h.gl (fun e => h2 e.symm)).trans h.blk, h.ne⟩

/-- a slab of elements T, the handles told (v7), the marks (v8) -/
structure Mem (T : TypeId) (B ps g : Nat) (w : World) (v7 v8 : Value) (l : List SL) (told : List (Int × Int)) (here : List Bool) : Prop where
  slab : SlabAt T w ps g l
  r7 : w.ownsRow B 32 2 v7 told.length (hcells told)
  r8 : w.ownsRow B 4 1 v8 here.length (here.map Value.bool)
  ne : v7.ownBlock = none ∨ v7.ownBlock ≠ v8.ownBlock
  low : ps < B ∧ g < B ∧ B ≤ w.heap.size

section
variable {T : TypeId} {B ps g : Nat} {w w' : World} {v7 v8 : Value} {l l' : List SL} {told : List (Int × Int)} {here : List Bool}
theorem own_ne {w : World} {B : Nat} {E : TypeId} {size n : Nat} {v : Value} {xs : List Value} (h : w.ownsRow B E size v n xs) {g : Nat} (hg : g < B) : v.ownBlock ≠ some g := fun e => by
  have := (h.lt g e).1; omega
theorem Mem.turn (h : Mem T B ps g w v7 v8 l told here) (hg : w.grownBy w' (some g)) (hS : SlabAt T w' ps g l') : Mem T B ps g w' v7 v8 l' told here :=
  ⟨hS, h.r7.kept hg (.inr (own_ne h.r7 h.low.2.1)), h.r8.kept hg (.inr (own_ne h.r8 h.low.2.1)), h.ne, h.low.1, h.low.2.1, Nat.le_trans h.low.2.2 hg.size⟩
theorem none_or {α : Type} (o : Option α) : o = none ∨ o ≠ none := by cases o <;> simp
theorem Mem.grown (h : Mem T B ps g w v7 v8 l told here) (hg : w.grownBy w' none) : Mem T B ps g w' v7 v8 l told here :=
  ⟨h.slab.grown hg (by simp) (by simp), h.r7.kept hg (none_or _), h.r8.kept hg (none_or _), h.ne, h.low.1, h.low.2.1, Nat.le_trans h.low.2.2 hg.size⟩
theorem Mem.alloc (h : Mem T B ps g w v7 v8 l told here) (o : Obj) : Mem T B ps g (w.alloc o) v7 v8 l told here := h.grown (World.grownBy_alloc w o none)
theorem Mem.below (h : Mem T B ps g w v7 v8 l told here) (hb : Below w.heap.size w w') : Mem T B ps g w' v7 v8 l told here := h.grown (below_grown hb)
theorem Mem.app7 (h : Mem T B ps g w v7 v8 l told here) {k c : Nat} {a b : Int} (ho : w'.ownsRow B 32 2 (.slice (some ⟨k, 0, none⟩) (told.length + 1) c) (told.length + 1) (hcells told ++ [.int .i64 a, .int .i64 b]))
    (hg : w.grownBy w' v7.ownBlock) (hk : v7.ownBlock = some k ∨ k = w.heap.size) : Mem T B ps g w' (.slice (some ⟨k, 0, none⟩) (told.length + 1) c) v8 l (told ++ [(a, b)]) here := by
  have hne : v8.ownBlock = none ∨ v8.ownBlock ≠ v7.ownBlock := by
    rcases h.ne with h1 | h1
    · rw [h1]; exact none_or _
    · exact .inr fun e => h1 e.symm
  refine ⟨h.slab.grown hg (own_ne h.r7 h.low.1) (own_ne h.r7 h.low.2.1), ?_, h.r8.kept hg hne, .inr fun e => ?_, h.low.1, h.low.2.1, Nat.le_trans h.low.2.2 hg.size⟩
  · rw [List.length_append, List.length_singleton, hcells_app]; exact ho
  · have e' : v8.ownBlock = some k := e.symm
    rcases hk with hk | hk
    · rcases h.ne with h1 | h1
      · rw [h1] at hk; cases hk
      · exact h1 (hk.trans e'.symm)
    · have := (h.r8.lt k e').2; omega
theorem Mem.app8 (h : Mem T B ps g w v7 v8 l told here) {k c : Nat} {b : Bool} (ho : w'.ownsRow B 4 1 (.slice (some ⟨k, 0, none⟩) (here.length + 1) c) (here.length + 1) (here.map Value.bool ++ [.bool b]))
    (hg : w.grownBy w' v8.ownBlock) (hk : v8.ownBlock = some k ∨ k = w.heap.size) : Mem T B ps g w' v7 (.slice (some ⟨k, 0, none⟩) (here.length + 1) c) l told (here ++ [b]) := by
  have hne : v7.ownBlock = none ∨ v7.ownBlock ≠ v8.ownBlock := h.ne
  refine ⟨h.slab.grown hg (own_ne h.r8 h.low.1) (own_ne h.r8 h.low.2.1), h.r7.kept hg hne, ?_, ?_, h.low.1, h.low.2.1, Nat.le_trans h.low.2.2 hg.size⟩
  · rw [List.length_append, List.length_singleton, List.map_append]; exact ho
  · rcases hne with h1 | h1
    · exact .inl h1
    · refine .inr fun e => ?_
      have e' : v7.ownBlock = some k := e
      rcases hk with hk | hk
      · exact h1 (e'.trans hk.symm)
      · have := (h.r7.lt k e').2; omega
theorem Mem.at7 (h : Mem T B ps g w v7 v8 l told here) {i : Nat} {p : Int × Int} (hp : told[i]? = some p) : ∃ k c, v7 = .slice (some ⟨k, 0, none⟩) told.length c ∧ w.cell? ⟨k, i * 2, none⟩ = some (.int .i64 p.1) ∧ w.cell? ⟨k, i * 2 + 1, none⟩ = some (.int .i64 p.2) ∧ k < w.heap.size ∧ k ≠ g := by
  have hi : i < told.length := (List.getElem?_eq_some_iff.1 hp).1
  obtain ⟨k, c, rfl, h1, h2⟩ := h.r7.form (by omega)
  obtain ⟨c0, c1⟩ := hcells_at _ _ _ hp
  refine ⟨k, c, rfl, ?_, ?_, h2, by have := h.low.2.1; omega⟩
  · rw [h.r7.cellAt _ (by omega)]; exact c0
  · rw [h.r7.cellAt _ (by omega)]; exact c1
theorem Mem.at8 (h : Mem T B ps g w v7 v8 l told here) {i : Nat} {b : Bool} (hp : here[i]? = some b) : ∃ k c, v8 = .slice (some ⟨k, 0, none⟩) here.length c ∧ w.cell? ⟨k, i, none⟩ = some (.bool b) ∧ w.frozen? ⟨k, i, none⟩ = false ∧ k < w.heap.size ∧ k ≠ g := by
  have hi : i < here.length := (List.getElem?_eq_some_iff.1 hp).1
  obtain ⟨k, c, rfl, h1, h2⟩ := h.r8.form (by omega)
  refine ⟨k, c, rfl, ?_, h.r8.frozenAt i, h2, by have := h.low.2.1; omega⟩
  · rw [h.r8.cellAt _ (by omega), List.getElem?_map, hp]; rfl
theorem Mem.len7 (h : Mem T B ps g w v7 v8 l told here) : ∃ A c, v7 = .slice A told.length c ∧ (A = none → told.length = 0) := by
  rcases Nat.eq_zero_or_pos told.length with h0 | h0
  · rcases h.r7.2 with ⟨hv, _⟩ | ⟨g, cap, cur, hv, _⟩
    · exact ⟨none, 0, by rw [hv, h0], fun _ => h0⟩
    · exact ⟨_, _, hv, fun _ => h0⟩
  · obtain ⟨k, c, rfl, h1, h2⟩ := h.r7.form h0
    exact ⟨_, _, rfl, fun e => by cases e⟩
theorem Mem.store8 {k c : Nat} (h : Mem T B ps g w v7 (.slice (some ⟨k, 0, none⟩) here.length c) l told here) (i : Nat) (b : Bool) : Mem T B ps g (w.setCell ⟨k, i, none⟩ (.bool b)) v7 (.slice (some ⟨k, 0, none⟩) here.length c) l told (here.set i b) := by
  obtain ⟨h1, h2⟩ := h.r8.stored i (.bool b)
  refine ⟨h.slab.grown h2 (own_ne h.r8 h.low.1) (own_ne h.r8 h.low.2.1), h.r7.kept h2 h.ne, ?_, h.ne, h.low.1, h.low.2.1, by simpa using h.low.2.2⟩
  rw [List.length_set, List.map_set]; exact h1
theorem Mem.c8 {k c : Nat} (h : Mem T B ps g w v7 (.slice (some ⟨k, 0, none⟩) here.length c) l told here) {i : Nat} {b : Bool} (hp : here[i]? = some b) : w.cell? ⟨k, i, none⟩ = some (.bool b) ∧ w.frozen? ⟨k, i, none⟩ = false := by
  obtain ⟨k', c', e, h1, h2, _⟩ := h.at8 hp
  injection e with e _ _
  injection e with e
  injection e with e
  subst e
  exact ⟨h1, h2⟩
theorem Mem.c7 {k c : Nat} (h : Mem T B ps g w (.slice (some ⟨k, 0, none⟩) told.length c) v8 l told here) {i : Nat} {p : Int × Int} (hp : told[i]? = some p) : w.cell? ⟨k, i * 2, none⟩ = some (.int .i64 p.1) ∧ w.cell? ⟨k, i * 2 + 1, none⟩ = some (.int .i64 p.2) := by
  obtain ⟨k', c', e, h1, h2, _⟩ := h.at7 hp
  injection e with e _ _
  injection e with e
  injection e with e
  subst e
  exact ⟨h1, h2⟩
theorem Mem.bl8 {k c : Nat} (h : Mem T B ps g w v7 (.slice (some ⟨k, 0, none⟩) here.length c) l told here) : B ≤ k := (h.r8.lt k rfl).1
end
end Go.Proofs.Ytpnegofmebfcgaa

/- A made row of slots: none of them full. -/
namespace Go.Proofs.Ytpnegofmebfcgaa
open Go.RowKit

theorem made_flat (z : Value) (n : Nat) : madeCells #[.int .i64 0, .int .i64 0, .bool false, z] (n * 4) = (flat (List.replicate n ⟨0, 0, false, z⟩)).toArray := by
  apply Array.ext_getElem?
  intro i
  by_cases hi : i < n * 4
  · have hs : (List.replicate n (⟨0, 0, false, z⟩ : SL))[i / 4]? = some ⟨0, 0, false, z⟩ := by
      rw [List.getElem?_replicate]; rw [if_pos (by omega)]
    obtain ⟨a, b, c, d⟩ := flat_get _ _ _ hs
    have e : (madeCells #[.int .i64 0, .int .i64 0, .bool false, z] (n * 4))[i]? = some (#[Value.int .i64 0, .int .i64 0, .bool false, z][i % 4]!) := by
      unfold madeCells
      simp [hi]
    rw [e, List.getElem?_toArray]
    have hm : i % 4 = 0 ∨ i % 4 = 1 ∨ i % 4 = 2 ∨ i % 4 = 3 := by omega
    rcases hm with h | h | h | h
    · have : i = i / 4 * 4 := by omega
      rw [h]; rw [this, a]; rfl
    · have : i = i / 4 * 4 + 1 := by omega
      rw [h]; rw [this, b]; rfl
    · have : i = i / 4 * 4 + 2 := by omega
      rw [h]; rw [this, c]; rfl
    · have : i = i / 4 * 4 + 3 := by omega
      rw [h]; rw [this, d]; rfl
  · rw [Array.getElem?_eq_none (by rw [size_madeCells]; omega), List.getElem?_toArray, List.getElem?_eq_none (by rw [flat_length, List.length_replicate]; omega)]
end Go.Proofs.Ytpnegofmebfcgaa

/- A region that draws its order, in a round of a range over a function: what every order does outside of a round it does there. -/
namespace Go.Proofs.Ytpnegofmebfcgaa
open Go.RowKit

theorem wpOpIn_of_plain {l n : Nat} {P : Program} {ops : Array Oper} {Q : Exit → Act → World → Prop} {i : Nat} {K : Act → World → Prop} {a : Act} {w : World} (hnd : ∀ o, ops[i]? = some o → ∀ c, o.op ≠ .defer c) (hQ : ¬ LetsOut Q)
    (h : wpOp P ops Q i K a w) : wpOpIn (Fence.wide.inRound l) n P ops Q i K a w := by
  unfold wpOp at h
  unfold wpOpIn
  cases ho : ops[i]? with
  | none => simp only [ho] at h ⊢; exact h
  | some o =>
    simp only [ho] at h ⊢
    cases hw : Region.wanted o (yielded ops a.tmps) with
    | true =>
      simp only [hw, if_true] at h ⊢
      rcases h with h | h
      · refine ⟨fun _ _ => trivial, ?_⟩
        rw [Oper.semAt_eq _ _ _ (hnd o ho)]
        unfold Oper.wp at h
        cases hr : (execOp a.eval o).run P w with
        | halt x w' => rw [hr] at h; cases x <;> first | exact h | exact h.elim
        | ok x w' =>
          rw [hr] at h
          cases x with
          | enter f args => exact ⟨fun h => (by cases h), CallsIn.inRound l (callsIn_wide.2 h)⟩
          | row row args => exact ⟨fun h => (by cases h), fun c cs _ => let ⟨v, w', r, s⟩ := h c cs; ⟨v, w', r, stepsIn_wide.2 s⟩⟩
          | _ => first | exact h | exact h.elim
      · exact (hQ h.2).elim
    | false =>
      simp only [hw, Bool.false_eq_true, if_false] at h ⊢
      exact ⟨fun _ _ => trivial, h⟩
theorem wpAnyIn_of_plain {l n : Nat} {P : Program} {ops : Array Oper} {md : Region.Mode} {Q : Exit → Act → World → Prop} (hnd : ∀ (i : Nat) o, ops[i]? = some o → ∀ c, o.op ≠ .defer c) (hQ : ¬ LetsOut Q) :
    ∀ (fuel : Nat) (listed : Array Bool) (a : Act) (w : World), wpAny P md ops Q fuel listed a w → wpAnyIn (Fence.wide.inRound l) n P md ops Q fuel listed a w
  | 0, _, _, _, h => h
  | fuel + 1, _, _, _, h => ⟨h.1, fun i hi => wpOpIn_of_plain (hnd i) hQ (wpOp_mono (fun a' w' h' => wpAnyIn_of_plain hnd hQ fuel _ a' w' h') (h.2 i hi))⟩
/-- a region in a round: its orders outside of one; S: what its loads read -/
theorem wpIn_region_held_round {l n : Nat} {P : Program} {id : Nat} {ops : List Oper} {Q : Exit → Act → World → Prop} {S : World → Prop} {a : Act} {w : World} (hnd : noDefer ops = true) (hm : P.follows .mixedOrders = true) (hQ : ¬ LetsOut Q) (hS : S w.drew)
    (h : S w.drew → wpAnyH P .any ops.toArray Q S ops.length (Array.replicate ops.length false) a w.drew) : (Code.region id ops.toArray true).wpIn (Fence.wide.inRound l) n P Q a w := by
  refine wpIn_region_any hm ?_
  have := wpAnyIn_of_plain (l := l) (n := n) (fun i o ho => noDefer_at hnd (by
    have := Array.mem_of_getElem? ho
    simpa using this)) hQ _ _ _ _ (wpAny_of_held _ _ _ _ (h hS))
  simpa using this
end Go.Proofs.Ytpnegofmebfcgaa

