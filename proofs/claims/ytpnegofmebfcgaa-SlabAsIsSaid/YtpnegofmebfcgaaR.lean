/- What a round of a range over a slab keeps: every block of slots but the slab's own. -/
import Derived.RangeFuncNested
import Derived.RangeFuncBound
import Derived.RangeFuncCalls
import Derived.RangeFuncLeaves
import Derived.Shelf.Abstract
import Derived.Shelf.RegionOpen
import Derived.WalkKit
import Derived.OwnWalkIn
import Derived.TacticsInMore
import Derived.LoopNIn
import Derived.LoopIn
import Derived.Test.YtpnegofmebfcgaaS2
namespace Go.Proofs.Ytpnegofmebfcgaa
open Go.RowKit Go.Shelf

/-- blocks of element type T other than g stay -/
structure KT (T : TypeId) (g : Nat) (W W' : World) : Prop where
  size : W.heap.size ≤ W'.heap.size
  same : ∀ (k : Nat) (cur : Array Value) (fr : Nat × Nat), k ≠ g → W.heap[k]? = some (.cells cur T fr) → W'.heap[k]? = some (.cells cur T fr)

theorem KT.refl (T : TypeId) (g : Nat) (W : World) : KT T g W W := ⟨Nat.le_refl _, fun _ _ _ _ h => h⟩
theorem KT.trans {T : TypeId} {g : Nat} {A B C : World} (h : KT T g A B) (k : KT T g B C) : KT T g A C :=
  ⟨Nat.le_trans h.size k.size, fun i cur fr hi hh => k.same i cur fr hi (h.same i cur fr hi hh)⟩
theorem KT.grown {T : TypeId} {g : Nat} {W W' : World} {row : Option Nat} (h : W.grownBy W' row) (hr : ∀ k, row = some k → k = g ∨ ∀ cur fr, W.heap[k]? ≠ some (.cells cur T fr)) : KT T g W W' :=
  ⟨h.size, fun k cur fr hk hh => by
    have hlt : k < W.heap.size := (Array.getElem?_eq_some_iff.1 hh).1
    refine (h.block k hlt (fun e => ?_)).trans hh
    rcases hr k e.symm with h1 | h1
    · exact hk h1
    · exact h1 cur fr hh⟩
theorem KT.putObj {T : TypeId} {g : Nat} {w : World} (W : World) (l : Nat) (o o' : Obj) (_ : w.heap.size ≤ l) (h : W.heap[l]? = some o) (hc : o.isCells = false) (_ : o.isWalk = false) : KT T g W (W.putObj l o') :=
  KT.grown (grownBy_putObj' W l o') (fun k e => by
    cases e
    exact .inr fun cur fr h2 => by rw [h] at h2; cases h2; cases hc)
theorem KT.below {T : TypeId} {g : Nat} {W W' : World} (h : Below W.heap.size W W') : KT T g W W' := KT.grown (row := none) (below_grown h) (fun k e => by cases e)
theorem KT.set {T : TypeId} {g : Nat} {W : World} {B i : Nat} {v : Value} (h : B = g ∨ ∀ cur fr, W.heap[B]? ≠ some (.cells cur T fr)) : KT T g W (W.setCell ⟨B, i, none⟩ v) :=
  KT.grown (grownBy_set W B i v) (fun k e => by cases e; exact h)
end Go.Proofs.Ytpnegofmebfcgaa
