/- Slabs: what a call that writes the slab alone, or nothing, leaves. -/
import Derived.Test.YtpnegofmebfcgaaS2
import Derived.Deep.AppendLies
namespace Go.Proofs.Ytpnegofmebfcgaa
open Go.RowKit

theorem grown_below' {w w' : World} {g n0 : Nat} (h : w.grownBy w' (some g)) (hg : n0 ≤ g) (_ : n0 ≤ w.heap.size) : Below n0 w w' :=
  ⟨h.os, h.tape, h.output, h.size, fun k hk => h.block k (by omega) (by intro e; cases e; omega)⟩
/-- a call answers v, and writes the slab's block alone, which then holds l -/
def Turns (T : TypeId) (ps g : Nat) (v : Value) (l : List SL) (w : World) : Ending → World → Prop := fun e w' => e = .returned v ∧ w.grownBy w' (some g) ∧ SlabAt T w' ps g l
theorem Calls.turns {P : Program} {f : FuncId} {args : Array Value} {w : World} {v : Value} {T : TypeId} {ps g : Nat} {l : List SL} (hS : SlabAt T w ps g l) (h : Calls P f args w (Gives v w)) : Calls P f args w (Turns T ps g v l w) :=
  h.mono fun _ _ ⟨he, y, hy⟩ => ⟨he, hy ▸ below_grown y.h, hy ▸ hS.below y.h⟩
theorem Calls.turns_keeps {P : Program} {f : FuncId} {args : Array Value} {w : World} {v : Value} {T : TypeId} {ps g : Nat} {l : List SL} (hS : SlabAt T w ps g l) (h : Calls P f args w (Keeps v w)) : Calls P f args w (Turns T ps g v l w) :=
  h.mono fun _ _ ⟨he, hy⟩ => ⟨he, hy ▸ below_grown (Below.refl _ _), hy ▸ hS⟩
end Go.Proofs.Ytpnegofmebfcgaa
