/- Slab: the law's own lives. -/
import Derived.Test.YtpnegofmebfcgaaUA
import Derived.Test.YtpnegofmebfcgaaUC
import Derived.Test.YtpnegofmebfcgaaUB
namespace Go.Proofs.Ytpnegofmebfcgaa
open Go.RowKit
attribute [local go_sem] BW.cell BW.frozen
set_option linter.unusedVariables false
set_option linter.unusedSimpArgs false

theorem lv_a (ps g : Nat) (w : World) (h : SlabAt 111 w ps g [⟨0, 0, false, .string .empty⟩, ⟨0, 0, false, .string .empty⟩]) : Calls Try.prog 28 #[.pointer (some ⟨ps, 0, none⟩), .string ⟨#[97]⟩] w (Turns 111 ps g (.tuple #[.agg #[.int .i64 0, .int .i64 1], .int .i64 0]) [⟨0, 1, true, .string ⟨#[97]⟩⟩, ⟨0, 0, false, .string .empty⟩] w) := by
  exact (puts_hit ps g 0 _ ⟨0, 0, false, .string .empty⟩ _ w h rfl rfl (fun j t hj => absurd hj (Nat.not_lt_zero j)) (by decide) (by decide) (by decide)).mono fun e w' hh => hh

theorem lv_b (ps g : Nat) (w : World) (h : SlabAt 111 w ps g [⟨0, 1, true, .string ⟨#[97]⟩⟩, ⟨0, 0, false, .string .empty⟩]) : Calls Try.prog 28 #[.pointer (some ⟨ps, 0, none⟩), .string ⟨#[98]⟩] w (Turns 111 ps g (.tuple #[.agg #[.int .i64 1, .int .i64 1], .int .i64 0]) [⟨0, 1, true, .string ⟨#[97]⟩⟩, ⟨1, 1, true, .string ⟨#[98]⟩⟩] w) := by
  refine (puts_hit ps g 1 _ ⟨0, 0, false, .string .empty⟩ _ w h rfl rfl ?_ (by decide) (by decide) (by decide)).mono fun e w' hh => hh
  intro j t hj ht
  match j, hj with
  | 0, _ => cases ht; rfl

theorem lv_c (ps g : Nat) (w : World) (h : SlabAt 111 w ps g [⟨0, 1, true, .string ⟨#[97]⟩⟩, ⟨1, 1, true, .string ⟨#[98]⟩⟩]) : Calls Try.prog 28 #[.pointer (some ⟨ps, 0, none⟩), .string ⟨#[99]⟩] w (Turns 111 ps g (.tuple #[.agg #[.int .i64 0, .int .i64 0], .int .i64 132]) [⟨0, 1, true, .string ⟨#[97]⟩⟩, ⟨1, 1, true, .string ⟨#[98]⟩⟩] w) := by
  refine Calls.turns h (puts_full ps g _ _ w h ?_ (by decide) (by decide))
  intro j t ht
  match j with
  | 0 => cases ht; rfl
  | 1 => cases ht; rfl
  | j + 2 => simp at ht

theorem lv_drop (ps g : Nat) (w : World) (h : SlabAt 111 w ps g [⟨0, 1, true, .string ⟨#[97]⟩⟩, ⟨1, 1, true, .string ⟨#[98]⟩⟩]) : Calls Try.prog 30 #[.pointer (some ⟨ps, 0, none⟩), .agg #[.int .i64 0, .int .i64 1]] w (Turns 111 ps g (.tuple #[.string ⟨#[97]⟩, .bool true]) [⟨0, 1, false, .string .empty⟩, ⟨1, 1, true, .string ⟨#[98]⟩⟩] w) := by
  exact drops_hit ps g 0 _ ⟨0, 1, true, .string ⟨#[97]⟩⟩ 0 1 w h rfl (fun u hu => finds_hit ps g _ 0 ⟨0, 1, true, .string ⟨#[97]⟩⟩ 1 u hu rfl rfl rfl rfl)

theorem lv_d (ps g : Nat) (w : World) (h : SlabAt 111 w ps g [⟨0, 1, false, .string .empty⟩, ⟨1, 1, true, .string ⟨#[98]⟩⟩]) : Calls Try.prog 28 #[.pointer (some ⟨ps, 0, none⟩), .string ⟨#[100]⟩] w (Turns 111 ps g (.tuple #[.agg #[.int .i64 0, .int .i64 2], .int .i64 0]) [⟨0, 2, true, .string ⟨#[100]⟩⟩, ⟨1, 1, true, .string ⟨#[98]⟩⟩] w) := by
  exact (puts_hit ps g 0 _ ⟨0, 1, false, .string .empty⟩ _ w h rfl rfl (fun j t hj => absurd hj (Nat.not_lt_zero j)) (by decide) (by decide) (by decide)).mono fun e w' hh => hh

theorem lv_get (ps g : Nat) (w : World) (h : SlabAt 111 w ps g [⟨0, 2, true, .string ⟨#[100]⟩⟩, ⟨1, 1, true, .string ⟨#[98]⟩⟩]) : Calls Try.prog 39 #[.pointer (some ⟨ps, 0, none⟩), .agg #[.int .i64 0, .int .i64 1]] w (Turns 111 ps g (.tuple #[.string .empty, .bool false]) [⟨0, 2, true, .string ⟨#[100]⟩⟩, ⟨1, 1, true, .string ⟨#[98]⟩⟩] w) := by
  exact Calls.turns h (gets_miss ps g _ 0 1 w h (fun u hu => finds_old ps g _ 0 ⟨0, 2, true, .string ⟨#[100]⟩⟩ 1 u hu rfl rfl rfl (by decide)))

theorem lv_len (ps g : Nat) (w : World) (h : SlabAt 111 w ps g [⟨0, 2, true, .string ⟨#[100]⟩⟩, ⟨1, 1, true, .string ⟨#[98]⟩⟩]) : Calls Try.prog 24 #[.pointer (some ⟨ps, 0, none⟩)] w (Gives (.int .i64 2) w) := by
  exact len_s ps g _ (by decide) (by decide) (by intro s hs; simp at hs; rcases hs with rfl | rfl <;> exact ⟨_, rfl⟩) w h

theorem lv_room (ps g : Nat) (w : World) (h : SlabAt 111 w ps g [⟨0, 2, true, .string ⟨#[100]⟩⟩, ⟨1, 1, true, .string ⟨#[98]⟩⟩]) : Calls Try.prog 25 #[.pointer (some ⟨ps, 0, none⟩)] w (Gives (.int .i64 0) w) := by
  exact room_s ps g _ (by decide) (by decide) (by intro s hs; simp at hs; rcases hs with rfl | rfl <;> exact ⟨_, rfl⟩) w h

set_option maxHeartbeats 8000000 in
theorem lives_ok (w : World) : Calls Try.prog 9 #[] w (Gives (.bool true) w) := by
  go_enter Try.func9, Try.ntmps9
  go_wp2_with fail
  refine (news_ok 2 w (by decide) (by decide)).mono ?_
  rintro e W0 ⟨rfl, bW0, hS0⟩
  have hgb : w.heap.size ≤ w.heap.size := Nat.le_refl _
  change SlabAt 111 W0 _ _ [⟨0, 0, false, .string .empty⟩, ⟨0, 0, false, .string .empty⟩] at hS0
  go_wp2_with fail
  refine (lv_a (w.heap.size + 1) w.heap.size _ hS0).mono ?_
  rintro e W1 ⟨rfl, hg1, hS1⟩
  have sz1 := hg1.size
  have bW1 : Below w.heap.size w W1 := bW0.trans (grown_below' hg1 hgb bW0.size)
  clear sz1 hg1 bW0 hS0
  clear W0
  go_wp2_with fail
  refine (lv_b (w.heap.size + 1) w.heap.size _ (hS1.alloc _)).mono ?_
  rintro e W2 ⟨rfl, hg2, hS2⟩
  have sz2 := hg2.size
  simp at sz2
  have gl2 := hS1.gl
  have q2_0_0 : W2.cell? ⟨W1.heap.size, 0, none⟩ = some (.int .i64 0) := by rw [hg2.cell_far _ (by simp) (by intro h; injection h with h; simp at h; omega)]; simp [go_sem]
  have q2_0_1 : W2.cell? ⟨W1.heap.size, 1, none⟩ = some (.int .i64 1) := by rw [hg2.cell_far _ (by simp) (by intro h; injection h with h; simp at h; omega)]; simp [go_sem]
  have l2_0 : W1.heap.size < W2.heap.size := by omega
  have n2_0 : W1.heap.size ≠ w.heap.size := by omega
  have bW2 : Below w.heap.size w W2 := (bW1.alloc bW1.size _).trans (grown_below' hg2 hgb (Nat.le_trans bW1.size (by simp)))
  clear sz2 hg2 gl2 bW1 hS1
  generalize W1.heap.size = b2 at *
  clear W1
  go_wp2_with fail
  refine (lv_c (w.heap.size + 1) w.heap.size _ (hS2.alloc _)).mono ?_
  rintro e W3 ⟨rfl, hg3, hS3⟩
  have q3_0_0 : W3.cell? ⟨b2, 0, none⟩ = some (.int .i64 0) := by rw [hg3.cell_far _ (by simp; omega) (by intro h; cases h; exact n2_0 rfl), World.cell?_alloc_lt _ _ _ (by simpa using l2_0)]; exact q2_0_0
  have q3_0_1 : W3.cell? ⟨b2, 1, none⟩ = some (.int .i64 1) := by rw [hg3.cell_far _ (by simp; omega) (by intro h; cases h; exact n2_0 rfl), World.cell?_alloc_lt _ _ _ (by simpa using l2_0)]; exact q2_0_1
  have sz3 := hg3.size
  simp at sz3
  have gl3 := hS2.gl
  have q3_1_0 : W3.cell? ⟨W2.heap.size, 0, none⟩ = some (.int .i64 1) := by rw [hg3.cell_far _ (by simp) (by intro h; injection h with h; simp at h; omega)]; simp [go_sem]
  have q3_1_1 : W3.cell? ⟨W2.heap.size, 1, none⟩ = some (.int .i64 1) := by rw [hg3.cell_far _ (by simp) (by intro h; injection h with h; simp at h; omega)]; simp [go_sem]
  have l3_0 : b2 < W3.heap.size := by omega
  have n3_0 : b2 ≠ w.heap.size := n2_0
  have l3_1 : W2.heap.size < W3.heap.size := by omega
  have n3_1 : W2.heap.size ≠ w.heap.size := by omega
  have bW3 : Below w.heap.size w W3 := (bW2.alloc bW2.size _).trans (grown_below' hg3 hgb (Nat.le_trans bW2.size (by simp)))
  clear sz3 hg3 gl3 q2_0_0 q2_0_1 l2_0 n2_0 bW2 hS2
  generalize W2.heap.size = b3 at *
  clear W2
  go_wp2_with fail
  refine (lv_drop (w.heap.size + 1) w.heap.size _ (hS3.alloc _)).mono ?_
  rintro e W4 ⟨rfl, hg4, hS4⟩
  have q4_0_0 : W4.cell? ⟨b2, 0, none⟩ = some (.int .i64 0) := by rw [hg4.cell_far _ (by simp; omega) (by intro h; cases h; exact n3_0 rfl), World.cell?_alloc_lt _ _ _ (by simpa using l3_0)]; exact q3_0_0
  have q4_0_1 : W4.cell? ⟨b2, 1, none⟩ = some (.int .i64 1) := by rw [hg4.cell_far _ (by simp; omega) (by intro h; cases h; exact n3_0 rfl), World.cell?_alloc_lt _ _ _ (by simpa using l3_0)]; exact q3_0_1
  have q4_1_0 : W4.cell? ⟨b3, 0, none⟩ = some (.int .i64 1) := by rw [hg4.cell_far _ (by simp; omega) (by intro h; cases h; exact n3_1 rfl), World.cell?_alloc_lt _ _ _ (by simpa using l3_1)]; exact q3_1_0
  have q4_1_1 : W4.cell? ⟨b3, 1, none⟩ = some (.int .i64 1) := by rw [hg4.cell_far _ (by simp; omega) (by intro h; cases h; exact n3_1 rfl), World.cell?_alloc_lt _ _ _ (by simpa using l3_1)]; exact q3_1_1
  have sz4 := hg4.size
  simp at sz4
  have gl4 := hS3.gl
  have q4_2_0 : W4.cell? ⟨W3.heap.size, 0, none⟩ = some (.int .i64 0) := by rw [hg4.cell_far _ (by simp) (by intro h; injection h with h; simp at h; omega)]; simp [go_sem]
  have q4_2_1 : W4.cell? ⟨W3.heap.size, 1, none⟩ = some (.int .i64 0) := by rw [hg4.cell_far _ (by simp) (by intro h; injection h with h; simp at h; omega)]; simp [go_sem]
  have l4_0 : b2 < W4.heap.size := by omega
  have n4_0 : b2 ≠ w.heap.size := n3_0
  have l4_1 : b3 < W4.heap.size := by omega
  have n4_1 : b3 ≠ w.heap.size := n3_1
  have l4_2 : W3.heap.size < W4.heap.size := by omega
  have n4_2 : W3.heap.size ≠ w.heap.size := by omega
  have bW4 : Below w.heap.size w W4 := (bW3.alloc bW3.size _).trans (grown_below' hg4 hgb (Nat.le_trans bW3.size (by simp)))
  clear sz4 hg4 gl4 q3_0_0 q3_0_1 q3_1_0 q3_1_1 l3_0 l3_1 n3_0 n3_1 bW3 hS3
  generalize W3.heap.size = b4 at *
  clear W3
  go_wp2_with fail
  refine (lv_d (w.heap.size + 1) w.heap.size _ hS4).mono ?_
  rintro e W5 ⟨rfl, hg5, hS5⟩
  have q5_0_0 : W5.cell? ⟨b2, 0, none⟩ = some (.int .i64 0) := by rw [hg5.cell_far _ l4_0 (by intro h; cases h; exact n4_0 rfl)]; exact q4_0_0
  have q5_0_1 : W5.cell? ⟨b2, 1, none⟩ = some (.int .i64 1) := by rw [hg5.cell_far _ l4_0 (by intro h; cases h; exact n4_0 rfl)]; exact q4_0_1
  have q5_1_0 : W5.cell? ⟨b3, 0, none⟩ = some (.int .i64 1) := by rw [hg5.cell_far _ l4_1 (by intro h; cases h; exact n4_1 rfl)]; exact q4_1_0
  have q5_1_1 : W5.cell? ⟨b3, 1, none⟩ = some (.int .i64 1) := by rw [hg5.cell_far _ l4_1 (by intro h; cases h; exact n4_1 rfl)]; exact q4_1_1
  have q5_2_0 : W5.cell? ⟨b4, 0, none⟩ = some (.int .i64 0) := by rw [hg5.cell_far _ l4_2 (by intro h; cases h; exact n4_2 rfl)]; exact q4_2_0
  have q5_2_1 : W5.cell? ⟨b4, 1, none⟩ = some (.int .i64 0) := by rw [hg5.cell_far _ l4_2 (by intro h; cases h; exact n4_2 rfl)]; exact q4_2_1
  have sz5 := hg5.size
  have l5_0 : b2 < W5.heap.size := by omega
  have n5_0 : b2 ≠ w.heap.size := n4_0
  have l5_1 : b3 < W5.heap.size := by omega
  have n5_1 : b3 ≠ w.heap.size := n4_1
  have l5_2 : b4 < W5.heap.size := by omega
  have n5_2 : b4 ≠ w.heap.size := n4_2
  have bW5 : Below w.heap.size w W5 := bW4.trans (grown_below' hg5 hgb bW4.size)
  clear sz5 hg5 q4_0_0 q4_0_1 q4_1_0 q4_1_1 q4_2_0 q4_2_1 l4_0 l4_1 l4_2 n4_0 n4_1 n4_2 bW4 hS4
  clear W4
  go_wp2_with fail
  refine (lv_get (w.heap.size + 1) w.heap.size _ (hS5.alloc _)).mono ?_
  rintro e W6 ⟨rfl, hg6, hS6⟩
  have q6_0_0 : W6.cell? ⟨b2, 0, none⟩ = some (.int .i64 0) := by rw [hg6.cell_far _ (by simp; omega) (by intro h; cases h; exact n5_0 rfl), World.cell?_alloc_lt _ _ _ (by simpa using l5_0)]; exact q5_0_0
  have q6_0_1 : W6.cell? ⟨b2, 1, none⟩ = some (.int .i64 1) := by rw [hg6.cell_far _ (by simp; omega) (by intro h; cases h; exact n5_0 rfl), World.cell?_alloc_lt _ _ _ (by simpa using l5_0)]; exact q5_0_1
  have q6_1_0 : W6.cell? ⟨b3, 0, none⟩ = some (.int .i64 1) := by rw [hg6.cell_far _ (by simp; omega) (by intro h; cases h; exact n5_1 rfl), World.cell?_alloc_lt _ _ _ (by simpa using l5_1)]; exact q5_1_0
  have q6_1_1 : W6.cell? ⟨b3, 1, none⟩ = some (.int .i64 1) := by rw [hg6.cell_far _ (by simp; omega) (by intro h; cases h; exact n5_1 rfl), World.cell?_alloc_lt _ _ _ (by simpa using l5_1)]; exact q5_1_1
  have q6_2_0 : W6.cell? ⟨b4, 0, none⟩ = some (.int .i64 0) := by rw [hg6.cell_far _ (by simp; omega) (by intro h; cases h; exact n5_2 rfl), World.cell?_alloc_lt _ _ _ (by simpa using l5_2)]; exact q5_2_0
  have q6_2_1 : W6.cell? ⟨b4, 1, none⟩ = some (.int .i64 0) := by rw [hg6.cell_far _ (by simp; omega) (by intro h; cases h; exact n5_2 rfl), World.cell?_alloc_lt _ _ _ (by simpa using l5_2)]; exact q5_2_1
  have sz6 := hg6.size
  simp at sz6
  have gl6 := hS5.gl
  have q6_3_0 : W6.cell? ⟨W5.heap.size, 0, none⟩ = some (.int .i64 0) := by rw [hg6.cell_far _ (by simp) (by intro h; injection h with h; simp at h; omega)]; simp [go_sem]
  have q6_3_1 : W6.cell? ⟨W5.heap.size, 1, none⟩ = some (.int .i64 2) := by rw [hg6.cell_far _ (by simp) (by intro h; injection h with h; simp at h; omega)]; simp [go_sem]
  have l6_0 : b2 < W6.heap.size := by omega
  have n6_0 : b2 ≠ w.heap.size := n5_0
  have l6_1 : b3 < W6.heap.size := by omega
  have n6_1 : b3 ≠ w.heap.size := n5_1
  have l6_2 : b4 < W6.heap.size := by omega
  have n6_2 : b4 ≠ w.heap.size := n5_2
  have l6_3 : W5.heap.size < W6.heap.size := by omega
  have n6_3 : W5.heap.size ≠ w.heap.size := by omega
  have bW6 : Below w.heap.size w W6 := (bW5.alloc bW5.size _).trans (grown_below' hg6 hgb (Nat.le_trans bW5.size (by simp)))
  clear sz6 hg6 gl6 q5_0_0 q5_0_1 q5_1_0 q5_1_1 q5_2_0 q5_2_1 l5_0 l5_1 l5_2 n5_0 n5_1 n5_2 bW5 hS5
  generalize W5.heap.size = b6 at *
  clear W5
  go_wp2_with fail
  refine ((Calls.turns hS6 (lv_len (w.heap.size + 1) w.heap.size _ hS6))).mono ?_
  rintro e W7 ⟨rfl, hg7, hS7⟩
  have q7_0_0 : W7.cell? ⟨b2, 0, none⟩ = some (.int .i64 0) := by rw [hg7.cell_far _ l6_0 (by intro h; cases h; exact n6_0 rfl)]; exact q6_0_0
  have q7_0_1 : W7.cell? ⟨b2, 1, none⟩ = some (.int .i64 1) := by rw [hg7.cell_far _ l6_0 (by intro h; cases h; exact n6_0 rfl)]; exact q6_0_1
  have q7_1_0 : W7.cell? ⟨b3, 0, none⟩ = some (.int .i64 1) := by rw [hg7.cell_far _ l6_1 (by intro h; cases h; exact n6_1 rfl)]; exact q6_1_0
  have q7_1_1 : W7.cell? ⟨b3, 1, none⟩ = some (.int .i64 1) := by rw [hg7.cell_far _ l6_1 (by intro h; cases h; exact n6_1 rfl)]; exact q6_1_1
  have q7_2_0 : W7.cell? ⟨b4, 0, none⟩ = some (.int .i64 0) := by rw [hg7.cell_far _ l6_2 (by intro h; cases h; exact n6_2 rfl)]; exact q6_2_0
  have q7_2_1 : W7.cell? ⟨b4, 1, none⟩ = some (.int .i64 0) := by rw [hg7.cell_far _ l6_2 (by intro h; cases h; exact n6_2 rfl)]; exact q6_2_1
  have q7_3_0 : W7.cell? ⟨b6, 0, none⟩ = some (.int .i64 0) := by rw [hg7.cell_far _ l6_3 (by intro h; cases h; exact n6_3 rfl)]; exact q6_3_0
  have q7_3_1 : W7.cell? ⟨b6, 1, none⟩ = some (.int .i64 2) := by rw [hg7.cell_far _ l6_3 (by intro h; cases h; exact n6_3 rfl)]; exact q6_3_1
  have sz7 := hg7.size
  have l7_0 : b2 < W7.heap.size := by omega
  have n7_0 : b2 ≠ w.heap.size := n6_0
  have l7_1 : b3 < W7.heap.size := by omega
  have n7_1 : b3 ≠ w.heap.size := n6_1
  have l7_2 : b4 < W7.heap.size := by omega
  have n7_2 : b4 ≠ w.heap.size := n6_2
  have l7_3 : b6 < W7.heap.size := by omega
  have n7_3 : b6 ≠ w.heap.size := n6_3
  have bW7 : Below w.heap.size w W7 := bW6.trans (grown_below' hg7 hgb bW6.size)
  clear sz7 hg7 q6_0_0 q6_0_1 q6_1_0 q6_1_1 q6_2_0 q6_2_1 q6_3_0 q6_3_1 l6_0 l6_1 l6_2 l6_3 n6_0 n6_1 n6_2 n6_3 bW6 hS6
  clear W6
  go_wp2_with fail
  refine ((Calls.turns hS7 (lv_room (w.heap.size + 1) w.heap.size _ hS7))).mono ?_
  rintro e W8 ⟨rfl, hg8, hS8⟩
  have q8_0_0 : W8.cell? ⟨b2, 0, none⟩ = some (.int .i64 0) := by rw [hg8.cell_far _ l7_0 (by intro h; cases h; exact n7_0 rfl)]; exact q7_0_0
  have q8_0_1 : W8.cell? ⟨b2, 1, none⟩ = some (.int .i64 1) := by rw [hg8.cell_far _ l7_0 (by intro h; cases h; exact n7_0 rfl)]; exact q7_0_1
  have q8_1_0 : W8.cell? ⟨b3, 0, none⟩ = some (.int .i64 1) := by rw [hg8.cell_far _ l7_1 (by intro h; cases h; exact n7_1 rfl)]; exact q7_1_0
  have q8_1_1 : W8.cell? ⟨b3, 1, none⟩ = some (.int .i64 1) := by rw [hg8.cell_far _ l7_1 (by intro h; cases h; exact n7_1 rfl)]; exact q7_1_1
  have q8_2_0 : W8.cell? ⟨b4, 0, none⟩ = some (.int .i64 0) := by rw [hg8.cell_far _ l7_2 (by intro h; cases h; exact n7_2 rfl)]; exact q7_2_0
  have q8_2_1 : W8.cell? ⟨b4, 1, none⟩ = some (.int .i64 0) := by rw [hg8.cell_far _ l7_2 (by intro h; cases h; exact n7_2 rfl)]; exact q7_2_1
  have q8_3_0 : W8.cell? ⟨b6, 0, none⟩ = some (.int .i64 0) := by rw [hg8.cell_far _ l7_3 (by intro h; cases h; exact n7_3 rfl)]; exact q7_3_0
  have q8_3_1 : W8.cell? ⟨b6, 1, none⟩ = some (.int .i64 2) := by rw [hg8.cell_far _ l7_3 (by intro h; cases h; exact n7_3 rfl)]; exact q7_3_1
  have sz8 := hg8.size
  have l8_0 : b2 < W8.heap.size := by omega
  have n8_0 : b2 ≠ w.heap.size := n7_0
  have l8_1 : b3 < W8.heap.size := by omega
  have n8_1 : b3 ≠ w.heap.size := n7_1
  have l8_2 : b4 < W8.heap.size := by omega
  have n8_2 : b4 ≠ w.heap.size := n7_2
  have l8_3 : b6 < W8.heap.size := by omega
  have n8_3 : b6 ≠ w.heap.size := n7_3
  have bW8 : Below w.heap.size w W8 := bW7.trans (grown_below' hg8 hgb bW7.size)
  clear sz8 hg8 q7_0_0 q7_0_1 q7_1_0 q7_1_1 q7_2_0 q7_2_1 q7_3_0 q7_3_1 l7_0 l7_1 l7_2 l7_3 n7_0 n7_1 n7_2 n7_3 bW7 hS7
  clear W7
  go_wp2
  go_ret
  exact gives_of_eq rfl bW8
end Go.Proofs.Ytpnegofmebfcgaa
