/- Slab (p): Len and Room as plain contracts. -/
import Derived.Test.YtpnegofmebfcgaaLp
import Derived.Test.YtpnegofmebfcgaaQ
import Derived.Lib.Hide
namespace Go.Proofs.Ytpnegofmebfcgaa
open Go.RowKit Go.Shelf
attribute [local go_sem] BW.cell BW.frozen
set_option linter.unusedVariables false

theorem len_p (ps g : Nat) (l : List SL) (hm : l.length ≤ 4096) (h0l : 0 < l.length) (hx : ∀ s ∈ l, ∃ b : Option Addr, s.x = .pointer b) (w : World) (hS : SlabAt 97 w ps g l) :
    Calls Try.prog 15 #[.pointer (some ⟨ps, 0, none⟩)] w (Gives (.int .i64 (l.filter (·.full)).length) w) := by
  refine (callsIn_wide (n := 3)).1 ?_
  exact (len_in_p _ 3 trivial trivial trivial rfl (Nat.le_refl _) ps g l hm h0l hx w hS).mono fun e w' ⟨he, hb⟩ => ⟨he, ⟨w', hb⟩, rfl⟩

end Go.Proofs.Ytpnegofmebfcgaa
