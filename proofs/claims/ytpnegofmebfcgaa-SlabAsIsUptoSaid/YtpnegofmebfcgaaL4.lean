/- What the second form's bound gives of a slice among what came in. -/
import Derived.Test.YtpnegofmebfcgaaL
namespace Go.Proofs.Ytpnegofmebfcgaa
open Go.RowKit

theorem bulk_in {H : Type} : ∀ (l : List (DataW H)) (d : DataW H), d ∈ l → Rows.uptoBulk d ≤ Rows.uptoBulkAll l
  | [], d, h => by cases h
  | x :: r, d, h => by
    simp only [Rows.uptoBulkAll]
    rcases List.mem_cons.1 h with rfl | h
    · omega
    · have := bulk_in r d h; omega
theorem bulk_mem {H : Type} {ds : List (DataW H)} (elems spare : List (DataW H)) (hm : DataW.slice elems spare ∈ ds) (hk : Rows.uptoSmall H ds = true) : elems.length ≤ 1048576 := by
  have h : Rows.uptoBulkAll ds ≤ 1048576 := of_decide_eq_true hk
  have h1 := bulk_in ds _ hm
  simp only [Rows.uptoBulk] at h1
  have h2 := bulk_length elems
  omega
end Go.Proofs.Ytpnegofmebfcgaa
