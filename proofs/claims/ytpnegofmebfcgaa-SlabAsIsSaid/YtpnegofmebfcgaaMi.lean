/- Slab (i): Len and Room as plain contracts. -/
import Derived.Test.YtpnegofmebfcgaaLi
import Derived.Test.YtpnegofmebfcgaaQ
import Derived.Lib.Hide
namespace Go.Proofs.Ytpnegofmebfcgaa
open Go.RowKit Go.Shelf
attribute [local go_sem] BW.cell BW.frozen
set_option linter.unusedVariables false

theorem len_i (ps g : Nat) (l : List SL) (hm : l.length ≤ 4096) (h0l : 0 < l.length) (hx : ∀ s ∈ l, ∃ b : Int, s.x = .int .i64 b) (w : World) (hS : SlabAt 120 w ps g l) :
    Calls Try.prog 35 #[.pointer (some ⟨ps, 0, none⟩)] w (Gives (.int .i64 (l.filter (·.full)).length) w) := by
  refine (callsIn_wide (n := 3)).1 ?_
  exact (len_in_i _ 3 trivial trivial trivial rfl (Nat.le_refl _) ps g l hm h0l hx w hS).mono fun e w' ⟨he, hb⟩ => ⟨he, ⟨w', hb⟩, rfl⟩

set_option maxHeartbeats 2000000 in
theorem room_i (ps g : Nat) (l : List SL) (hm : l.length ≤ 4096) (h0l : 0 < l.length) (hx : ∀ s ∈ l, ∃ b : Int, s.x = .int .i64 b) (w : World) (hS : SlabAt 120 w ps g l) :
    Calls Try.prog 36 #[.pointer (some ⟨ps, 0, none⟩)] w (Gives (.int .i64 ((l.length : Int) - (l.filter (·.full)).length)) w) := by
  have hp := hS.ptr
  have hpl := hS.pl
  have K := fun w (hS : SlabAt 120 w ps g l) => len_i ps g l hm h0l hx w hS
  have hle := List.length_filter_le (·.full) l
  generalize (l.filter (·.full)).length = m at *
  have HK := Lib.hid K
  have HS := Lib.hid hS
  clear K hx hS
  go_enter Try.func36, Try.ntmps36
  go_wp2_with fail
  refine wp_region_bw w.heap.size _ (Below.refl _ _) (by kernel_rfl) (by kernel_rfl) ?_
  repeat (go_big_quiet_step ((go_at_call 35; exact Calls.bw_of (by simp) (HK.out _ (HS.out.below (BW.h _))))))
  refine wpQuiet_nil ?_
  intro x
  go_wp2
  go_ret
  exact gives_of_eq rfl x.h
end Go.Proofs.Ytpnegofmebfcgaa
