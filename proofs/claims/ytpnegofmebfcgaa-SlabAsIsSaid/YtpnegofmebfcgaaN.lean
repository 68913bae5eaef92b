/- A made row of slots: none of them full. -/
import Derived.Test.YtpnegofmebfcgaaS2
import Derived.Laws.MakeOwn
namespace Go.Proofs.Ytpnegofmebfcgaa
open Go.RowKit

theorem made_flat (z : Value) (n : Nat) : madeCells #[.int .i64 0, .int .i64 0, .bool false, z] (n * 4) = (flat (List.replicate n ⟨0, 0, false, z⟩)).toArray := by
  apply Array.ext_getElem?
  intro i
  by_cases hi : i < n * 4
  · have hs : (List.replicate n (⟨0, 0, false, z⟩ : SL))[i / 4]? = some ⟨0, 0, false, z⟩ := by
      rw [List.getElem?_replicate]; rw [if_pos (by omega)]
    obtain ⟨a, b, c, d⟩ := flat_get _ _ _ hs
    have e : (madeCells #[.int .i64 0, .int .i64 0, .bool false, z] (n * 4))[i]? = some (#[Value.int .i64 0, .int .i64 0, .bool false, z][i % 4]!) := by
      unfold madeCells
      simp [hi]
    rw [e, List.getElem?_toArray]
    have hm : i % 4 = 0 ∨ i % 4 = 1 ∨ i % 4 = 2 ∨ i % 4 = 3 := by omega
    rcases hm with h | h | h | h
    · have : i = i / 4 * 4 := by omega
      rw [h]; rw [this, a]; rfl
    · have : i = i / 4 * 4 + 1 := by omega
      rw [h]; rw [this, b]; rfl
    · have : i = i / 4 * 4 + 2 := by omega
      rw [h]; rw [this, c]; rfl
    · have : i = i / 4 * 4 + 3 := by omega
      rw [h]; rw [this, d]; rfl
  · rw [Array.getElem?_eq_none (by rw [size_madeCells]; omega), List.getElem?_toArray, List.getElem?_eq_none (by rw [flat_length, List.length_replicate]; omega)]
end Go.Proofs.Ytpnegofmebfcgaa
