/- Slab: find and Get of one instance. -/
import Derived.Test.YtpnegofmebfcgaaS1
import Derived.Test.YtpnegofmebfcgaaQ
import Derived.Lib.Hide
namespace Go.Proofs.Ytpnegofmebfcgaa
open Go.RowKit
attribute [local go_sem] BW.cell BW.frozen
set_option linter.unusedVariables false

set_option maxHeartbeats 2000000 in
theorem findi_neg (ps g : Nat) (l : List SL) (hs hg : Int) (w : World) (h : SlabAt 120 w ps g l) (h0 : hs < 0) :
    Calls Try.prog 51 #[.pointer (some ⟨ps, 0, none⟩), .agg #[.int .i64 hs, .int .i64 hg]] w (Gives (.pointer none) w) := by
  have hp := h.ptr
  have hpl := h.pl
  have b0 : decide (hs < 0) = true := decide_eq_true h0
  go_enter Try.func51, Try.ntmps51
  go_wp2_with fail
  refine wp_region_bw (w.heap.size + 1) _ (Below.refl _ _) (by kernel_rfl) (by kernel_rfl) ?_
  repeat (go_big_quiet_step (fail))
  refine wpQuiet_nil ?_
  intro x
  go_wp2_with fail
  go_wp2
  go_ret
  exact gives_of_eq rfl (((Below.refl _ w).alloc (Nat.le_refl _) _).trans (x.h.mono (by simp)))

set_option maxHeartbeats 2000000 in
theorem findi_over (ps g : Nat) (l : List SL) (hs hg : Int) (w : World) (h : SlabAt 120 w ps g l) (h0 : ¬ hs < 0) (h1 : (l.length : Int) ≤ hs) :
    Calls Try.prog 51 #[.pointer (some ⟨ps, 0, none⟩), .agg #[.int .i64 hs, .int .i64 hg]] w (Gives (.pointer none) w) := by
  have hp := h.ptr
  have hpl := h.pl
  have hgl := h.gl
  have b0 : decide (hs < 0) = false := decide_eq_false h0
  have b1 : decide ((l.length : Int) ≤ hs) = true := decide_eq_true h1
  go_enter Try.func51, Try.ntmps51
  go_wp2_with fail
  refine wp_region_bw (w.heap.size + 1) _ (Below.refl _ _) (by kernel_rfl) (by kernel_rfl) ?_
  repeat (go_big_quiet_step (fail))
  refine wpQuiet_nil ?_
  intro x
  go_wp2_with fail
  go_wp2
  go_ret
  exact gives_of_eq rfl (((Below.refl _ w).alloc (Nat.le_refl _) _).trans (x.h.mono (by simp)))

set_option maxHeartbeats 2000000 in
theorem findi_free (ps g : Nat) (l : List SL) (i : Nat) (s : SL) (hg : Int) (w : World) (h : SlabAt 120 w ps g l) (hs' : l[i]? = some s) (hf : s.full = false) :
    Calls Try.prog 51 #[.pointer (some ⟨ps, 0, none⟩), .agg #[.int .i64 i, .int .i64 hg]] w (Gives (.pointer none) w) := by
  have hp := h.ptr
  have hpl := h.pl
  have hgl := h.gl
  have hlt : i < l.length := (List.getElem?_eq_some_iff.1 hs').1
  obtain ⟨c0, c1, c2, c3⟩ := h.at hs'
  have b0 : decide ((i : Int) < 0) = false := decide_eq_false (by omega)
  have b1 : decide ((l.length : Int) ≤ (i : Int)) = false := decide_eq_false (by omega)
  rw [hf] at c2
  go_enter Try.func51, Try.ntmps51
  go_wp2_with fail
  refine wp_region_bw (w.heap.size + 1) _ (Below.refl _ _) (by kernel_rfl) (by kernel_rfl) ?_
  repeat (go_big_quiet_step (fail))
  refine wpQuiet_nil ?_
  intro x
  go_wp2_with fail
  refine wp_region_bw (w.heap.size + 1) _ x.h (by kernel_rfl) (by kernel_rfl) ?_
  repeat (go_big_quiet_step (fail))
  refine wpQuiet_nil ?_
  intro y
  go_wp2_with fail
  refine wp_region_bw (w.heap.size + 1) _ y.h (by kernel_rfl) (by kernel_rfl) ?_
  repeat (go_big_quiet_step (fail))
  refine wpQuiet_nil ?_
  intro z
  go_wp2_with fail
  go_wp2
  go_ret
  exact gives_of_eq rfl (((Below.refl _ w).alloc (Nat.le_refl _) _).trans (z.h.mono (by simp)))

set_option maxHeartbeats 2000000 in
theorem findi_old (ps g : Nat) (l : List SL) (i : Nat) (s : SL) (hg : Int) (w : World) (h : SlabAt 120 w ps g l) (hs' : l[i]? = some s) (hf : s.full = true) (hi : s.slot = i) (hn : ¬ s.gen = hg) :
    Calls Try.prog 51 #[.pointer (some ⟨ps, 0, none⟩), .agg #[.int .i64 i, .int .i64 hg]] w (Gives (.pointer none) w) := by
  have hp := h.ptr
  have hpl := h.pl
  have hgl := h.gl
  have hlt : i < l.length := (List.getElem?_eq_some_iff.1 hs').1
  obtain ⟨c0, c1, c2, c3⟩ := h.at hs'
  have b0 : decide ((i : Int) < 0) = false := decide_eq_false (by omega)
  have b1 : decide ((l.length : Int) ≤ (i : Int)) = false := decide_eq_false (by omega)
  rw [hf] at c2
  rw [hi] at c0
  have b2 : (s.gen == hg) = false := by simpa using hn
  go_enter Try.func51, Try.ntmps51
  go_wp2_with fail
  refine wp_region_bw (w.heap.size + 1) _ (Below.refl _ _) (by kernel_rfl) (by kernel_rfl) ?_
  repeat (go_big_quiet_step (fail))
  refine wpQuiet_nil ?_
  intro x
  go_wp2_with fail
  refine wp_region_bw (w.heap.size + 1) _ x.h (by kernel_rfl) (by kernel_rfl) ?_
  repeat (go_big_quiet_step (fail))
  refine wpQuiet_nil ?_
  intro y
  go_wp2_with fail
  refine wp_region_bw (w.heap.size + 1) _ y.h (by kernel_rfl) (by kernel_rfl) ?_
  repeat (go_big_quiet_step (fail))
  refine wpQuiet_nil ?_
  intro z
  go_wp2_with fail
  go_wp2
  go_ret
  exact gives_of_eq rfl (((Below.refl _ w).alloc (Nat.le_refl _) _).trans (z.h.mono (by simp)))

set_option maxHeartbeats 2000000 in
theorem findi_hit (ps g : Nat) (l : List SL) (i : Nat) (s : SL) (hg : Int) (w : World) (h : SlabAt 120 w ps g l) (hs' : l[i]? = some s) (hf : s.full = true) (hi : s.slot = i) (hn : s.gen = hg) :
    Calls Try.prog 51 #[.pointer (some ⟨ps, 0, none⟩), .agg #[.int .i64 i, .int .i64 hg]] w (Gives (.pointer (some ⟨g, i * 4, none⟩)) w) := by
  have hp := h.ptr
  have hpl := h.pl
  have hgl := h.gl
  have hlt : i < l.length := (List.getElem?_eq_some_iff.1 hs').1
  obtain ⟨c0, c1, c2, c3⟩ := h.at hs'
  have b0 : decide ((i : Int) < 0) = false := decide_eq_false (by omega)
  have b1 : decide ((l.length : Int) ≤ (i : Int)) = false := decide_eq_false (by omega)
  rw [hf] at c2
  rw [hi] at c0
  rw [hn] at c1
  go_enter Try.func51, Try.ntmps51
  go_wp2_with fail
  refine wp_region_bw (w.heap.size + 1) _ (Below.refl _ _) (by kernel_rfl) (by kernel_rfl) ?_
  repeat (go_big_quiet_step (fail))
  refine wpQuiet_nil ?_
  intro x
  go_wp2_with fail
  refine wp_region_bw (w.heap.size + 1) _ x.h (by kernel_rfl) (by kernel_rfl) ?_
  repeat (go_big_quiet_step (fail))
  refine wpQuiet_nil ?_
  intro y
  go_wp2_with fail
  refine wp_region_bw (w.heap.size + 1) _ y.h (by kernel_rfl) (by kernel_rfl) ?_
  repeat (go_big_quiet_step (fail))
  refine wpQuiet_nil ?_
  intro z
  go_wp2_with fail
  go_wp2
  go_ret
  exact gives_of_eq rfl (((Below.refl _ w).alloc (Nat.le_refl _) _).trans (z.h.mono (by simp)))

set_option maxHeartbeats 2000000 in
theorem geti_miss (ps g : Nat) (l : List SL) (hs hg : Int) (w : World) (h : SlabAt 120 w ps g l)
    (K : ∀ w, SlabAt 120 w ps g l → Calls Try.prog 51 #[.pointer (some ⟨ps, 0, none⟩), .agg #[.int .i64 hs, .int .i64 hg]] w (Gives (.pointer none) w)) :
    Calls Try.prog 37 #[.pointer (some ⟨ps, 0, none⟩), .agg #[.int .i64 hs, .int .i64 hg]] w (Gives (.tuple #[.int .i64 0, .bool false]) w) := by
  have HK := Lib.hid K
  clear K
  go_enter Try.func37, Try.ntmps37
  go_wp2_with fail
  refine (HK.out _ (h.alloc _)).mono ?_
  rintro e w' ⟨rfl, z, rfl⟩
  go_wp2_with fail
  go_ret2
  exact gives_of_eq rfl (((Below.refl _ w).alloc (Nat.le_refl _) _).trans (z.h.mono (by simp)))

set_option maxHeartbeats 2000000 in
theorem geti_hit (ps g i : Nat) (l : List SL) (s : SL) (hs hg : Int) (w : World) (h : SlabAt 120 w ps g l) (hl : l[i]? = some s)
    (K : ∀ w, SlabAt 120 w ps g l → Calls Try.prog 51 #[.pointer (some ⟨ps, 0, none⟩), .agg #[.int .i64 hs, .int .i64 hg]] w (Gives (.pointer (some ⟨g, i * 4, none⟩)) w)) :
    Calls Try.prog 37 #[.pointer (some ⟨ps, 0, none⟩), .agg #[.int .i64 hs, .int .i64 hg]] w (Gives (.tuple #[s.x, .bool true]) w) := by
  have HK := Lib.hid K
  clear K
  go_enter Try.func37, Try.ntmps37
  go_wp2_with fail
  refine (HK.out _ (h.alloc _)).mono ?_
  rintro e w' ⟨rfl, z, rfl⟩
  obtain ⟨c0, c1, c2, c3⟩ := ((h.alloc _).below z.h).at hl
  go_wp2_with fail
  go_ret2
  exact gives_of_eq rfl (((Below.refl _ w).alloc (Nat.le_refl _) _).trans (z.h.mono (by simp)))
end Go.Proofs.Ytpnegofmebfcgaa
