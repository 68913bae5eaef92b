/- A nil slice that came in has no capacity. -/
import Derived.Test.YtpnegofmebfcgaaL3
namespace Go.Proofs.Ytpnegofmebfcgaa
open Go.ChangeShapes Go.WideShapes Go.ChangeAt Go.RowKit
set_option maxRecDepth 50000

theorem nil_cap {T E : TypeId} (hu : Try.prog.underlying T = some (.slice E)) {H : Type} {enc : TypeId × Value → H} {W : World} {base : Nat} {A : Option Addr} {n c : Nat} {d : DataW H} {ps : List MemPlace} {held : Bool} {sp : Nat → Bool}
    (hd : DataW.Trod enc Try.prog W base sp held T (.slice A n c) d ps) : A = none → c = 0 := by
  rintro rfl
  obtain ⟨fuel, hf⟩ := hd
  rcases Go.Deep.open_slice hu hf with ⟨h0, _⟩ | ⟨a, len, cap, m, k, D, Pl, hcs, _⟩
  · simp only [Value.cells] at h0
    injection h0 with h0
    injection h0
  · simp only [Value.cells] at hcs
    injection hcs with hcs
    injection hcs with e1 _ _
    cases e1
theorem cap_max {T E : TypeId} (hu : Try.prog.underlying T = some (.slice E)) {H : Type} {enc : TypeId × Value → H} {W : World} {base : Nat} {A : Option Addr} {n c : Nat} {d : DataW H} {ps : List MemPlace} {held : Bool} {sp : Nat → Bool}
    (hd : DataW.Trod enc Try.prog W base sp held T (.slice A n c) d ps) : c ≤ 9223372036854775807 := by
  obtain ⟨fuel, hf⟩ := hd
  rcases Go.Deep.open_slice hu hf with ⟨h0, _⟩ | ⟨a, len, cap, m, k, D, Pl, hcs, _, _, hm, _⟩
  · simp only [Value.cells] at h0
    injection h0 with h0
    injection h0 with _ _ e3
    omega
  · simp only [Value.cells] at hcs
    injection hcs with hcs
    injection hcs with _ _ e3
    rw [e3]
    exact hm
end Go.Proofs.Ytpnegofmebfcgaa
