/- Contracts of plane and of the reference, 1: distances, boxes. -/
import Derived.Test.YtilimgjmiijkiaaQ
import Derived.Test.YtilimgjmiijkiaaM3
namespace Go.Proofs.Ytilimgjmiijkiaa
open Go.RowKit
attribute [local go_sem] BW.cell BW.frozen
def apart (a b : Int) : Int := if a - b < b - a then b - a else a - b
theorem apart_bd (a b : Int) (ha1 : -32768 ≤ a) (ha2 : a ≤ 32767) (hb1 : -32768 ≤ b) (hb2 : b ≤ 32767) : 0 ≤ apart a b ∧ apart a b ≤ 65535 := by
  unfold apart; split <;> omega
def size (a : Int) : Int := if a < 0 then -a else a
theorem size_bd (a : Int) (ha1 : -1073741824 ≤ a) (ha2 : a ≤ 1073741824) : 0 ≤ size a ∧ size a ≤ 1073741824 := by
  unfold size; split <;> omega
theorem size_apart (a b : Int) : size (a - b) = apart a b := by unfold size apart; split <;> split <;> omega

set_option maxHeartbeats 400000 in
theorem apart_any (a b : Int) (w : World) (ha1 : -32768 ≤ a) (ha2 : a ≤ 32767) (hb1 : -32768 ≤ b) (hb2 : b ≤ 32767) :
    Calls Try.prog 49 #[.int .i16 a, .int .i16 b] w (Keeps (.int .i64 (apart a b)) w) := by
  go_enter Try.func49, Try.ntmps49
  go_wp2
  all_goals
    go_ret
    refine keeps_eq ?_
    show Value.int _ _ = _
    unfold apart
    split <;> first | rfl | omega

set_option maxHeartbeats 400000 in
theorem size_any (a : Int) (w : World) (ha1 : -1073741824 ≤ a) (ha2 : a ≤ 1073741824) :
    Calls Try.prog 50 #[.int .i64 a] w (Keeps (.int .i64 (size a)) w) := by
  go_enter Try.func50, Try.ntmps50
  go_wp2
  all_goals
    go_ret
    refine keeps_eq ?_
    show Value.int _ _ = _
    unfold size
    split <;> first | rfl | omega

set_option maxHeartbeats 400000 in
theorem dist_any (ax ay bx b_y : Int) (w : World) (h1 : -32768 ≤ ax) (h2 : ax ≤ 32767) (h3 : -32768 ≤ ay) (h4 : ay ≤ 32767) (h5 : -32768 ≤ bx) (h6 : bx ≤ 32767) (h7 : -32768 ≤ b_y) (h8 : b_y ≤ 32767) :
    Calls Try.prog 21 #[.agg #[.int .i16 ax, .int .i16 ay], .agg #[.int .i16 bx, .int .i16 b_y]] w (Gives (.int .i64 (apart ax bx + apart ay b_y)) w) := by
  obtain ⟨g1, g2⟩ := apart_bd ax bx h1 h2 h5 h6
  obtain ⟨g3, g4⟩ := apart_bd ay b_y h3 h4 h7 h8
  go_enter Try.func21, Try.ntmps21
  go_wp2
  refine wp_region_bw (w.heap.size + 2) _ (Below.refl _ _) (by kernel_rfl) (by kernel_rfl) ?_
  repeat (go_big_quiet_step ((go_at_call 49; refine Calls.bw_same (apart_any _ _ _ (by assumption) (by assumption) (by assumption) (by assumption)))))
  refine wpQuiet_nil ?_
  intro x
  go_wp2
  go_ret
  exact gives_of_eq rfl ((((Below.refl _ w).alloc (Nat.le_refl _) _).alloc (by simp) _).trans (x.h.mono (by simp)))

set_option maxHeartbeats 400000 in
theorem rdist_any (ax ay bx b_y : Int) (w : World) (h1 : -32768 ≤ ax) (h2 : ax ≤ 32767) (h3 : -32768 ≤ ay) (h4 : ay ≤ 32767) (h5 : -32768 ≤ bx) (h6 : bx ≤ 32767) (h7 : -32768 ≤ b_y) (h8 : b_y ≤ 32767) :
    Calls Try.prog 22 #[.agg #[.int .i16 ax, .int .i16 ay], .agg #[.int .i16 bx, .int .i16 b_y]] w (Gives (.int .i64 (apart ax bx + apart ay b_y)) w) := by
  rw [← size_apart, ← size_apart]
  obtain ⟨g1, g2⟩ := size_bd (ax - bx) (by omega) (by omega)
  obtain ⟨g3, g4⟩ := size_bd (ay - b_y) (by omega) (by omega)
  go_enter Try.func22, Try.ntmps22
  go_wp2
  refine wp_region_bw (w.heap.size + 2) _ (Below.refl _ _) (by kernel_rfl) (by kernel_rfl) ?_
  repeat (go_big_quiet_step ((go_at_call 50; refine Calls.bw_same (size_any _ _ (by omega) (by omega)))))
  refine wpQuiet_nil ?_
  intro x
  go_wp2
  go_ret
  exact gives_of_eq rfl ((((Below.refl _ w).alloc (Nat.le_refl _) _).alloc (by simp) _).trans (x.h.mono (by simp)))

set_option maxHeartbeats 400000 in
theorem at_any (x y : Int) (w : World) : Calls Try.prog 41 #[.int .i16 x, .int .i16 y] w (Gives (.agg #[.int .i16 x, .int .i16 y]) w) := by
  go_enter Try.func41, Try.ntmps41
  go_wp2
  exact bodyPost_ret (v := .agg #[.int .i16 x, .int .i16 y]) (by simp [results, Try.results41, go_sem]) rfl (gives_of ((Below.refl _ w).alloc (Nat.le_refl _) _))

set_option maxHeartbeats 400000 in
theorem to_any (x y : Int) (w : World) : Calls Try.prog 30 #[.agg #[.int .i16 x, .int .i16 y]] w (Gives (.complex .f64 (fl x) (fl y)) w) := by
  go_enter Try.func30, Try.ntmps30
  go_wp2
  go_ret
  exact gives_of_eq rfl ((Below.refl _ w).alloc (Nat.le_refl _) _)

def cut (n : Int) : Int := if n < -32768 then -32768 else if 32767 < n then 32767 else n
set_option maxHeartbeats 400000 in
theorem cut_any (n : Int) (w : World) : Calls Try.prog 58 #[.int .i64 n] w (Keeps (.int .i16 (cut n)) w) := by
  by_cases h1 : n < -32768
  · go_enter Try.func58, Try.ntmps58
    go_wp2
    go_ret
    exact keeps_eq (by unfold cut; rw [if_pos h1]; rfl)
  · by_cases h2 : 32767 < n
    · go_enter Try.func58, Try.ntmps58
      go_wp2
      go_ret
      exact keeps_eq (by unfold cut; rw [if_neg (by omega), if_pos h2]; rfl)
    · go_enter Try.func58, Try.ntmps58
      go_wp2
      go_ret
      exact keeps_eq (by unfold cut; rw [if_neg (by omega), if_neg (by omega)]; rfl)

set_option maxHeartbeats 400000 in
theorem edge_any (n : Int) (w : World) : Calls Try.prog 57 #[.int .i64 n] w (Keeps (.int .i16 (cut n)) w) := by
  by_cases h1 : n < -32768
  · go_enter Try.func57, Try.ntmps57
    go_wp2
    go_ret
    exact keeps_eq (by unfold cut; rw [if_pos h1]; rfl)
  · by_cases h2 : 32767 < n
    · go_enter Try.func57, Try.ntmps57
      go_wp2
      go_ret
      exact keeps_eq (by unfold cut; rw [if_neg (by omega), if_pos h2]; rfl)
    · go_enter Try.func57, Try.ntmps57
      go_wp2
      go_ret
      exact keeps_eq (by unfold cut; rw [if_neg (by omega), if_neg (by omega)]; rfl)
end Go.Proofs.Ytilimgjmiijkiaa
