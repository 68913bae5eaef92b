/- Slab: New of one instance, the slab made. -/
import Derived.Test.YtpnegofmebfcgaaN
import Derived.Test.YtpnegofmebfcgaaDp
import Derived.Lib.Hide
import Derived.OwnWalk
namespace Go.Proofs.Ytpnegofmebfcgaa
open Go.RowKit
attribute [local go_sem] BW.cell BW.frozen
set_option linter.unusedVariables false

set_option maxHeartbeats 2000000 in
theorem newp_ok (n : Nat) (w : World) (h1 : 1 ≤ n) (h2 : n ≤ 4096) :
    Calls Try.prog 8 #[.int .i64 n] w fun e w' => e = .returned (.tuple #[.pointer (some ⟨w.heap.size + 1, 0, none⟩), .int .i64 0]) ∧ Below w.heap.size w w' ∧ SlabAt 97 w' (w.heap.size + 1) w.heap.size (List.replicate n ⟨0, 0, false, .pointer none⟩) := by
  obtain ⟨i0, hi, hz0, hz1, hz2⟩ := info_parts Try.info97
  have hmk : ∀ u : World, (Instr.makeSlice 92 (.int .i64 n) (.int .i64 n)).run Try.prog u =
      .ok (.slice (some ⟨u.heap.size, 0, none⟩) n n) (u.alloc (.cells (flat (List.replicate n ⟨0, 0, false, .pointer none⟩)).toArray 97)) := fun u => by
    have h := run_make (P := Try.prog) u 92 97 i0 (.agg #[.int .i64 0, .int .i64 0, .bool false, .pointer none]) Try.underlying92 hi hz0 .i64 .i64 (n : Int) (n : Int) (by omega) (Int.le_refl _) (by rw [hz2]; omega) (by omega)
    rw [Int.toNat_natCast, hz1] at h
    rw [h]
    have e := made_flat (.pointer none) n
    rw [← e]; rfl
  generalize hcs : (flat (List.replicate n ⟨0, 0, false, .pointer none⟩)).toArray = cs at hmk
  have HC := Lib.hid hcs
  clear hcs
  have hm1 : ¬ (n : Int) < 1 := by omega
  have hm2 : ¬ 4096 < (n : Int) := by omega
  go_enter Try.func8, Try.ntmps8
  go_wp2
  go_ret2
  refine ⟨rfl, ((Below.refl _ w).alloc (Nat.le_refl _) _).alloc (by simp) _, ?_, ?_, by omega⟩
  · rw [List.length_replicate]; simp [go_sem]
  · rw [HC.out]; exact (Below.heap_alloc _ _ _ (by simp)).trans (heap_alloc_new w _)
end Go.Proofs.Ytpnegofmebfcgaa
