/- Trip: at, New, follows. -/
import Derived.Test.YtnooghehmgbemaaGreatB4
import Derived.Deep.LoopGhost
namespace Go.Proofs.YtnooghehmgbemaaGreat
open Go.RowKit
set_option linter.unusedVariables false
set_option linter.unusedSimpArgs false

def MaxTick : Int := 1099511627776
def atE (tick clock : Int) : Int := if tick < 0 ∨ 1099511627776 < tick then 1 else if tick < clock then 4 else 0
set_option maxHeartbeats 2000000 in
theorem at_nil (tick : Int) (w : World) : Calls Tryz.prog 98 #[.pointer none, .int .i64 tick] w (Keeps (.int .i64 2) w) := by
  go_enter Tryz.func98, Tryz.ntmps98
  go_wp2
  go_ret
  exact keeps_eq rfl
set_option maxHeartbeats 2000000 in
theorem at_zero (tb : Nat) (tick : Int) (w : World) (cm : w.cell? ⟨tb, 2, none⟩ = some (.map none)) : Calls Tryz.prog 98 #[.pointer (some ⟨tb, 0, none⟩), .int .i64 tick] w (Keeps (.int .i64 2) w) := by
  have hm := fun w => run_eql_map_nil (P := Tryz.prog) w 71 59 83 none Tryz.underlying71
  go_enter Tryz.func98, Tryz.ntmps98
  go_wp2
  go_ret
  exact keeps_eq rfl
set_option maxHeartbeats 2000000 in
theorem at_real (tb b1 : Nat) (tick clock : Int) (w : World) (cm : w.cell? ⟨tb, 2, none⟩ = some (.map (some b1))) (cc : w.cell? ⟨tb, 0, none⟩ = some (.int .i64 clock)) : Calls Tryz.prog 98 #[.pointer (some ⟨tb, 0, none⟩), .int .i64 tick] w (Keeps (.int .i64 (atE tick clock)) w) := by
  have hm := fun w => run_eql_map_nil (P := Tryz.prog) w 71 59 83 (some b1) Tryz.underlying71
  unfold atE
  by_cases h0 : tick < 0
  · rw [if_pos (.inl h0)]
    go_enter Tryz.func98, Tryz.ntmps98
    go_wp2
    go_ret
    exact keeps_eq rfl
  · by_cases h1 : 1099511627776 < tick
    · rw [if_pos (.inr h1)]
      go_enter Tryz.func98, Tryz.ntmps98
      go_wp2
      go_ret
      exact keeps_eq rfl
    · rw [if_neg (fun h => h.elim h0 h1)]
      by_cases h2 : tick < clock
      · rw [if_pos h2]
        go_enter Tryz.func98, Tryz.ntmps98
        go_wp2
        go_ret
        exact keeps_eq rfl
      · rw [if_neg h2]
        go_enter Tryz.func98, Tryz.ntmps98
        go_wp2
        go_ret
        exact keeps_eq rfl

set_option maxHeartbeats 2000000 in
theorem new_ok (w : World) : Calls Tryz.prog 5 #[] w fun e w' => e = .returned (.pointer (some ⟨w.heap.size + 3, 0, none⟩)) ∧
    w' = (((w.alloc (.map #[] 0)).alloc (.map #[] 0)).alloc (.map #[] 0)).alloc (.cells #[.int .i64 0, .slice none 0 0, .map (some w.heap.size), .map (some (w.heap.size + 1)), .map (some (w.heap.size + 2))] 75) := by
  have hmm := @run_makeMap Tryz.prog
  go_enter Tryz.func5, Tryz.ntmps5
  go_wp2
  go_ret
  exact ⟨rfl, rfl⟩
/-- which state may follow -/
def fol (was s : Int) : Bool := (was == 1 && s == 2) || (was == 1 && s == 5) || (was == 2 && s == 3) || (was == 2 && s == 5) || (was == 3 && s == 4)

def Tab : Array Value := #[.int .u8 1, .int .u8 2, .int .u8 1, .int .u8 5, .int .u8 2, .int .u8 3, .int .u8 2, .int .u8 5, .int .u8 3, .int .u8 4]
theorem tab_at0 (u : World) : (Instr.index 262 (.agg Tab) (.int .i64 ((0 : Nat) : Int))).run Tryz.prog u = .ok (.agg #[.int .u8 1, .int .u8 2]) u := by kernel_rfl
theorem tab_at1 (u : World) : (Instr.index 262 (.agg Tab) (.int .i64 ((1 : Nat) : Int))).run Tryz.prog u = .ok (.agg #[.int .u8 1, .int .u8 5]) u := by kernel_rfl
theorem tab_at2 (u : World) : (Instr.index 262 (.agg Tab) (.int .i64 ((2 : Nat) : Int))).run Tryz.prog u = .ok (.agg #[.int .u8 2, .int .u8 3]) u := by kernel_rfl
theorem tab_at3 (u : World) : (Instr.index 262 (.agg Tab) (.int .i64 ((3 : Nat) : Int))).run Tryz.prog u = .ok (.agg #[.int .u8 2, .int .u8 5]) u := by kernel_rfl
theorem tab_at4 (u : World) : (Instr.index 262 (.agg Tab) (.int .i64 ((4 : Nat) : Int))).run Tryz.prog u = .ok (.agg #[.int .u8 3, .int .u8 4]) u := by kernel_rfl
set_option maxRecDepth 20000 in
set_option maxHeartbeats 8000000 in
theorem follows_ok (was s : Int) (w : World) : Calls Tryz.prog 101 #[.int .u8 was, .int .u8 s] w (Gives (.bool (fol was s)) w) := by
  go_enter Tryz.func101, Tryz.ntmps101
  go_wp2_with fail
  go_loopg [15] 5 (fun gk v wr => ∃ j : Nat, j + gk = 5 ∧ v = .int .i64 j ∧ (0 < j → ¬ (was = 1 ∧ s = 2)) ∧ (1 < j → ¬ (was = 1 ∧ s = 5)) ∧ (2 < j → ¬ (was = 2 ∧ s = 3)) ∧ (3 < j → ¬ (was = 2 ∧ s = 5)) ∧ (4 < j → ¬ (was = 3 ∧ s = 4)) ∧ Below w.heap.size w wr)
  case atStart => exact ⟨0, by omega, rfl, by omega, by omega, by omega, by omega, by omega, (Below.refl _ w).alloc (Nat.le_refl _) _⟩
  case round =>
    obtain ⟨j, hj, rfl, n0, n1, n2, n3, n4, hb⟩ := hrel
    have hj5 : j = 0 ∨ j = 1 ∨ j = 2 ∨ j = 3 ∨ j = 4 ∨ j = 5 := by omega
    have hN := Lib.hid (And.intro n0 (And.intro n1 (And.intro n2 (And.intro n3 n4))))
    clear n0 n1 n2 n3 n4
    rcases hj5 with rfl | rfl | rfl | rfl | rfl | rfl
    · by_cases ha : was = 1
      · by_cases hs : s = 2
        · subst ha hs
          go_wp2_with (refine wpList_index rfl 262 _ _ (by rfl) (.agg Tab) (.int .i64 (((0 : Nat) : Int))) (.agg #[.int .u8 1, .int .u8 2]) (by rfl) (by rfl) tab_at0 ?_)
          go_ret
          exact gives_of_eq (by rfl) (hb.alloc hb.size _)
        · have h1 : ((1 : Int) == was) = true := by rw [ha]; rfl
          have h2 : ((2 : Int) == s) = false := by simp only [beq_eq_false_iff_ne]; omega
          have HA := Lib.hid ha
          have HB := Lib.hid hs
          clear ha hs
          go_wp2_with (refine wpList_index rfl 262 _ _ (by rfl) (.agg Tab) (.int .i64 (((0 : Nat) : Int))) (.agg #[.int .u8 1, .int .u8 2]) (by rfl) (by rfl) tab_at0 ?_)
          go_roundg (gk - 1)
          case measure => omega
          case rel => exact ⟨1, by omega, by go_num, by have := hN.out; have := HA.out; have := HB.out; omega, by have := hN.out; have := HA.out; have := HB.out; omega, by have := hN.out; have := HA.out; have := HB.out; omega, by have := hN.out; have := HA.out; have := HB.out; omega, by have := hN.out; have := HA.out; have := HB.out; omega, hb.alloc hb.size _⟩
      · have h1 : ((1 : Int) == was) = false := by simp only [beq_eq_false_iff_ne]; omega
        have HA := Lib.hid ha
        clear ha
        go_wp2_with (refine wpList_index rfl 262 _ _ (by rfl) (.agg Tab) (.int .i64 (((0 : Nat) : Int))) (.agg #[.int .u8 1, .int .u8 2]) (by rfl) (by rfl) tab_at0 ?_)
        go_roundg (gk - 1)
        case measure => omega
        case rel => exact ⟨1, by omega, by go_num, by have := hN.out; have := HA.out; omega, by have := hN.out; have := HA.out; omega, by have := hN.out; have := HA.out; omega, by have := hN.out; have := HA.out; omega, by have := hN.out; have := HA.out; omega, hb.alloc hb.size _⟩
    · by_cases ha : was = 1
      · by_cases hs : s = 5
        · subst ha hs
          go_wp2_with (refine wpList_index rfl 262 _ _ (by rfl) (.agg Tab) (.int .i64 (((1 : Nat) : Int))) (.agg #[.int .u8 1, .int .u8 5]) (by rfl) (by rfl) tab_at1 ?_)
          go_ret
          exact gives_of_eq (by rfl) (hb.alloc hb.size _)
        · have h1 : ((1 : Int) == was) = true := by rw [ha]; rfl
          have h2 : ((5 : Int) == s) = false := by simp only [beq_eq_false_iff_ne]; omega
          have HA := Lib.hid ha
          have HB := Lib.hid hs
          clear ha hs
          go_wp2_with (refine wpList_index rfl 262 _ _ (by rfl) (.agg Tab) (.int .i64 (((1 : Nat) : Int))) (.agg #[.int .u8 1, .int .u8 5]) (by rfl) (by rfl) tab_at1 ?_)
          go_roundg (gk - 1)
          case measure => omega
          case rel => exact ⟨2, by omega, by go_num, by have := hN.out; have := HA.out; have := HB.out; omega, by have := hN.out; have := HA.out; have := HB.out; omega, by have := hN.out; have := HA.out; have := HB.out; omega, by have := hN.out; have := HA.out; have := HB.out; omega, by have := hN.out; have := HA.out; have := HB.out; omega, hb.alloc hb.size _⟩
      · have h1 : ((1 : Int) == was) = false := by simp only [beq_eq_false_iff_ne]; omega
        have HA := Lib.hid ha
        clear ha
        go_wp2_with (refine wpList_index rfl 262 _ _ (by rfl) (.agg Tab) (.int .i64 (((1 : Nat) : Int))) (.agg #[.int .u8 1, .int .u8 5]) (by rfl) (by rfl) tab_at1 ?_)
        go_roundg (gk - 1)
        case measure => omega
        case rel => exact ⟨2, by omega, by go_num, by have := hN.out; have := HA.out; omega, by have := hN.out; have := HA.out; omega, by have := hN.out; have := HA.out; omega, by have := hN.out; have := HA.out; omega, by have := hN.out; have := HA.out; omega, hb.alloc hb.size _⟩
    · by_cases ha : was = 2
      · by_cases hs : s = 3
        · subst ha hs
          go_wp2_with (refine wpList_index rfl 262 _ _ (by rfl) (.agg Tab) (.int .i64 (((2 : Nat) : Int))) (.agg #[.int .u8 2, .int .u8 3]) (by rfl) (by rfl) tab_at2 ?_)
          go_ret
          exact gives_of_eq (by rfl) (hb.alloc hb.size _)
        · have h1 : ((2 : Int) == was) = true := by rw [ha]; rfl
          have h2 : ((3 : Int) == s) = false := by simp only [beq_eq_false_iff_ne]; omega
          have HA := Lib.hid ha
          have HB := Lib.hid hs
          clear ha hs
          go_wp2_with (refine wpList_index rfl 262 _ _ (by rfl) (.agg Tab) (.int .i64 (((2 : Nat) : Int))) (.agg #[.int .u8 2, .int .u8 3]) (by rfl) (by rfl) tab_at2 ?_)
          go_roundg (gk - 1)
          case measure => omega
          case rel => exact ⟨3, by omega, by go_num, by have := hN.out; have := HA.out; have := HB.out; omega, by have := hN.out; have := HA.out; have := HB.out; omega, by have := hN.out; have := HA.out; have := HB.out; omega, by have := hN.out; have := HA.out; have := HB.out; omega, by have := hN.out; have := HA.out; have := HB.out; omega, hb.alloc hb.size _⟩
      · have h1 : ((2 : Int) == was) = false := by simp only [beq_eq_false_iff_ne]; omega
        have HA := Lib.hid ha
        clear ha
        go_wp2_with (refine wpList_index rfl 262 _ _ (by rfl) (.agg Tab) (.int .i64 (((2 : Nat) : Int))) (.agg #[.int .u8 2, .int .u8 3]) (by rfl) (by rfl) tab_at2 ?_)
        go_roundg (gk - 1)
        case measure => omega
        case rel => exact ⟨3, by omega, by go_num, by have := hN.out; have := HA.out; omega, by have := hN.out; have := HA.out; omega, by have := hN.out; have := HA.out; omega, by have := hN.out; have := HA.out; omega, by have := hN.out; have := HA.out; omega, hb.alloc hb.size _⟩
    · by_cases ha : was = 2
      · by_cases hs : s = 5
        · subst ha hs
          go_wp2_with (refine wpList_index rfl 262 _ _ (by rfl) (.agg Tab) (.int .i64 (((3 : Nat) : Int))) (.agg #[.int .u8 2, .int .u8 5]) (by rfl) (by rfl) tab_at3 ?_)
          go_ret
          exact gives_of_eq (by rfl) (hb.alloc hb.size _)
        · have h1 : ((2 : Int) == was) = true := by rw [ha]; rfl
          have h2 : ((5 : Int) == s) = false := by simp only [beq_eq_false_iff_ne]; omega
          have HA := Lib.hid ha
          have HB := Lib.hid hs
          clear ha hs
          go_wp2_with (refine wpList_index rfl 262 _ _ (by rfl) (.agg Tab) (.int .i64 (((3 : Nat) : Int))) (.agg #[.int .u8 2, .int .u8 5]) (by rfl) (by rfl) tab_at3 ?_)
          go_roundg (gk - 1)
          case measure => omega
          case rel => exact ⟨4, by omega, by go_num, by have := hN.out; have := HA.out; have := HB.out; omega, by have := hN.out; have := HA.out; have := HB.out; omega, by have := hN.out; have := HA.out; have := HB.out; omega, by have := hN.out; have := HA.out; have := HB.out; omega, by have := hN.out; have := HA.out; have := HB.out; omega, hb.alloc hb.size _⟩
      · have h1 : ((2 : Int) == was) = false := by simp only [beq_eq_false_iff_ne]; omega
        have HA := Lib.hid ha
        clear ha
        go_wp2_with (refine wpList_index rfl 262 _ _ (by rfl) (.agg Tab) (.int .i64 (((3 : Nat) : Int))) (.agg #[.int .u8 2, .int .u8 5]) (by rfl) (by rfl) tab_at3 ?_)
        go_roundg (gk - 1)
        case measure => omega
        case rel => exact ⟨4, by omega, by go_num, by have := hN.out; have := HA.out; omega, by have := hN.out; have := HA.out; omega, by have := hN.out; have := HA.out; omega, by have := hN.out; have := HA.out; omega, by have := hN.out; have := HA.out; omega, hb.alloc hb.size _⟩
    · by_cases ha : was = 3
      · by_cases hs : s = 4
        · subst ha hs
          go_wp2_with (refine wpList_index rfl 262 _ _ (by rfl) (.agg Tab) (.int .i64 (((4 : Nat) : Int))) (.agg #[.int .u8 3, .int .u8 4]) (by rfl) (by rfl) tab_at4 ?_)
          go_ret
          exact gives_of_eq (by rfl) (hb.alloc hb.size _)
        · have h1 : ((3 : Int) == was) = true := by rw [ha]; rfl
          have h2 : ((4 : Int) == s) = false := by simp only [beq_eq_false_iff_ne]; omega
          have HA := Lib.hid ha
          have HB := Lib.hid hs
          clear ha hs
          go_wp2_with (refine wpList_index rfl 262 _ _ (by rfl) (.agg Tab) (.int .i64 (((4 : Nat) : Int))) (.agg #[.int .u8 3, .int .u8 4]) (by rfl) (by rfl) tab_at4 ?_)
          go_roundg (gk - 1)
          case measure => omega
          case rel => exact ⟨5, by omega, by go_num, by have := hN.out; have := HA.out; have := HB.out; omega, by have := hN.out; have := HA.out; have := HB.out; omega, by have := hN.out; have := HA.out; have := HB.out; omega, by have := hN.out; have := HA.out; have := HB.out; omega, by have := hN.out; have := HA.out; have := HB.out; omega, hb.alloc hb.size _⟩
      · have h1 : ((3 : Int) == was) = false := by simp only [beq_eq_false_iff_ne]; omega
        have HA := Lib.hid ha
        clear ha
        go_wp2_with (refine wpList_index rfl 262 _ _ (by rfl) (.agg Tab) (.int .i64 (((4 : Nat) : Int))) (.agg #[.int .u8 3, .int .u8 4]) (by rfl) (by rfl) tab_at4 ?_)
        go_roundg (gk - 1)
        case measure => omega
        case rel => exact ⟨5, by omega, by go_num, by have := hN.out; have := HA.out; omega, by have := hN.out; have := HA.out; omega, by have := hN.out; have := HA.out; omega, by have := hN.out; have := HA.out; omega, by have := hN.out; have := HA.out; omega, hb.alloc hb.size _⟩
    · have e : fol was s = false := by
        have := hN.out
        unfold fol
        simp only [Bool.or_eq_false_iff, Bool.and_eq_false_iff, beq_eq_false_iff_ne]
        omega
      go_wp2_with fail
      go_ret
      exact gives_of_eq (congrArg Value.bool e.symm) hb

end Go.Proofs.YtnooghehmgbemaaGreat
