/- Words of this seat: worlds that have only grown, as values. -/
import Derived.Test.YtpnegofmebfcgaaRows
import Derived.WalkKit
import Derived.WalkSpells
import Derived.WalkLawsBesides
import Derived.Deep.QuietTactic
import Derived.BigQuiet
namespace Go.Proofs.Ytpnegofmebfcgaa
open Go.RowKit

/-- A world in which all that lay below B in w lies as it lay. -/
structure BW (B : Nat) (w : World) where
  i : World
  h : Below B w i

instance {B : Nat} {w : World} : Nonempty (BW B w) := ⟨⟨w, Below.refl _ _⟩⟩
def BW.refl (B : Nat) (w : World) : BW B w := ⟨w, Below.refl _ _⟩

theorem BW.cell {B : Nat} {w : World} (x : BW B w) {p : Addr} (hp : p.block < B) : x.i.cell? p = w.cell? p := x.h.cell hp
theorem BW.frozen {B : Nat} {w : World} (x : BW B w) {p : Addr} (hp : p.block < B) : x.i.frozen? p = w.frozen? p := x.h.frozen hp
theorem BW.size {B : Nat} {w : World} (x : BW B w) : w.heap.size ≤ x.i.heap.size := x.h.size
def BW.up {B : Nat} {w : World} (x : BW B w) (y : BW x.i.heap.size x.i) (hB : B ≤ w.heap.size) : BW B w :=
  ⟨y.i, x.h.trans (y.h.mono (Nat.le_trans hB x.h.size))⟩
@[go_sem] theorem BW.up_i {B : Nat} {w : World} (x : BW B w) (y : BW x.i.heap.size x.i) (hB : B ≤ w.heap.size) : (x.up y hB).i = y.i := rfl

/-- The call returns v, and what was there lies as it lay. -/
def Gives (v : Value) (w : World) : Ending → World → Prop := fun e w' => e = .returned v ∧ ∃ x : BW w.heap.size w, w' = x.i

theorem gives_same {v : Value} {w : World} : Gives v w (.returned v) w := ⟨rfl, BW.refl _ _, rfl⟩
theorem gives_of {v : Value} {w w' : World} (h : Below w.heap.size w w') : Gives v w (.returned v) w' := ⟨rfl, ⟨w', h⟩, rfl⟩
theorem gives_of_eq {u v : Value} {w w' : World} (e : u = v) (h : Below w.heap.size w w') : Gives v w (.returned u) w' := by subst e; exact gives_of h

/-- The call returns v and leaves the world alone. -/
def Keeps (v : Value) (w : World) : Ending → World → Prop := fun e w' => e = .returned v ∧ w = w'
theorem keeps_eq {u v : Value} {w : World} (e : u = v) : Keeps v w (.returned u) w := by subst e; exact ⟨rfl, rfl⟩

theorem Calls.bw_of {P : Program} {f : FuncId} {args : Array Value} {B : Nat} {w : World} {x : BW B w} {v : Value} (hB : B ≤ w.heap.size)
    (h : Calls P f args x.i (Gives v x.i)) : Calls P f args x.i fun e w'' => e = .returned v ∧ ∃ y : BW B w, w'' = y.i :=
  h.mono fun _ _ ⟨he, y, hy⟩ => ⟨he, x.up y hB, hy⟩

theorem Calls.bw_same {P : Program} {f : FuncId} {args : Array Value} {B : Nat} {w : World} {x : BW B w} {v : Value}
    (h : Calls P f args x.i (Keeps v x.i)) : Calls P f args x.i fun e w'' => e = .returned v ∧ ∃ y : BW B w, w'' = y.i :=
  h.mono fun _ _ ⟨he, hy⟩ => ⟨he, x, hy.symm⟩

/-- A region that draws its order, its operations reading and its calls only making memory: one walk. -/
theorem wp_region_bw {P : Program} {id : Nat} {Q : Exit → Act → World → Prop} {a : Act} {w : World} {l : List Oper} (B : Nat) (W : World) (hw : Below B W w) (hm : P.follows .mixedOrders = true) (hB : Region.lexB .any l.toArray = true)
    (h : wpQuiet P l.toArray (fun w' => ∃ x : BW B W, w' = x.i) (fun a' => ∀ x : BW B W, Q .normal a' x.i) l a) : (Code.region id l.toArray true).wp P Q a w :=
  wp_region_quiet (C := fun w' => ∃ x : BW B W, w' = x.i) hm hB ⟨⟨{ w with drawn := w.drawn + 1 }, hw.drew⟩, rfl⟩
    (by
      have e : (fun a' => ∀ w', (∃ x : BW B W, w' = x.i) → Q .normal a' w') = fun a' => ∀ x : BW B W, Q .normal a' x.i := by
        funext a'
        exact propext ⟨fun h x => h _ ⟨x, rfl⟩, fun h w' ⟨x, hx⟩ => hx ▸ h x⟩
      rw [e]
      simpa using h)
theorem Calls.bw_at {P : Program} {f : FuncId} {args : Array Value} {B : Nat} {W w : World} {v : Value} (hw : Below B W w) (hB : B ≤ w.heap.size)
    (h : Calls P f args w (Gives v w)) : Calls P f args w fun e w'' => e = .returned v ∧ ∃ y : BW B W, w'' = y.i :=
  h.mono fun _ _ ⟨he, y, hy⟩ => ⟨he, ⟨y.i, hw.trans (y.h.mono hB)⟩, hy⟩

theorem Calls.bw_at_same {P : Program} {f : FuncId} {args : Array Value} {B : Nat} {W w : World} {v : Value} (hw : Below B W w)
    (h : Calls P f args w (Keeps v w)) : Calls P f args w fun e w'' => e = .returned v ∧ ∃ y : BW B W, w'' = y.i :=
  h.mono fun _ _ ⟨he, hy⟩ => ⟨he, ⟨w, hw⟩, hy.symm⟩

end Go.Proofs.Ytpnegofmebfcgaa
