/- Contracts of plane and of the reference, 9: turns of the reference. -/
import Derived.Test.YtilimgjmiijkiaaA8
namespace Go.Proofs.Ytilimgjmiijkiaa
open Go.RowKit
attribute [local go_sem] BW.cell BW.frozen

theorem pin_of (X Y : Int) : (-32768 ≤ X ∧ X ≤ 32767 ∧ -32768 ≤ Y ∧ Y ≤ 32767 ∧ pin X Y = .tuple #[.agg #[.int .i16 X, .int .i16 Y], .bool true]) ∨
    ((X < -32768 ∨ (¬ X < -32768 ∧ 32767 < X) ∨ (¬ X < -32768 ∧ ¬ 32767 < X ∧ Y < -32768) ∨ (¬ X < -32768 ∧ ¬ 32767 < X ∧ ¬ Y < -32768 ∧ 32767 < Y)) ∧ pin X Y = .tuple #[.agg #[.int .i16 0, .int .i16 0], .bool false]) := by
  unfold pin inP
  by_cases h : -32768 ≤ X ∧ X ≤ 32767
  · by_cases h' : -32768 ≤ Y ∧ Y ≤ 32767
    · exact .inl ⟨h.1, h.2, h'.1, h'.2, by simp [h, h']⟩
    · refine .inr ⟨by omega, ?_⟩
      rw [decide_eq_false h']; simp
  · refine .inr ⟨by omega, ?_⟩
    rw [decide_eq_false h]; simp

set_option maxHeartbeats 2000000 in
theorem rturn_m3 (px py ax ay q : Int) (w : World) (h1 : -32768 ≤ px) (h2 : px ≤ 32767) (h3 : -32768 ≤ py) (h4 : py ≤ 32767) (h5 : -32768 ≤ ax) (h6 : ax ≤ 32767) (h7 : -32768 ≤ ay) (h8 : ay ≤ 32767) (hq : q.tmod 4 = -3) :
    Calls Try.prog 36 #[.agg #[.int .i16 px, .int .i16 py], .agg #[.int .i16 ax, .int .i16 ay], .int .i64 q] w (Gives (pin (-(py - ay) + ax) (px - ax + ay)) w) := by
  rcases pin_of (-(py - ay) + ax) (px - ax + ay) with ⟨a1, a2, a3, a4, e⟩ | ⟨hb, e⟩
  · rw [e]
    clear e
    go_enter Try.func36, Try.ntmps36
    go_wp2
    refine wp_loop_rounds 2 ?_
    rw [rounds_succ]
    go_wp2
    rw [rounds_succ]
    go_wp2
    refine bodyPost_ret (v := .tuple #[.agg #[.int .i16 (-(py - ay) + ax), .int .i16 (px - ax + ay)], .bool true]) ?_ rfl (gives_of ((((Below.refl _ w).alloc (Nat.le_refl _) _).alloc (by simp) _).alloc (by simp <;> omega) _))
    simp [results, Try.results36, go_sem]
    try omega
  · rw [e]
    clear e
    rcases hb with b1 | ⟨b1, b2⟩ | ⟨b1, b2, b3⟩ | ⟨b1, b2, b3, b4⟩
    all_goals
      go_enter Try.func36, Try.ntmps36
      go_wp2
      refine wp_loop_rounds 2 ?_
      rw [rounds_succ]
      go_wp2
      rw [rounds_succ]
      go_wp2
      refine bodyPost_ret (v := .tuple #[.agg #[.int .i16 0, .int .i16 0], .bool false]) (by simp [results, Try.results36, go_sem]) rfl (gives_of ((((Below.refl _ w).alloc (Nat.le_refl _) _).alloc (by simp) _).alloc (by simp <;> omega) _))

set_option maxHeartbeats 2000000 in
theorem rturn_m2 (px py ax ay q : Int) (w : World) (h1 : -32768 ≤ px) (h2 : px ≤ 32767) (h3 : -32768 ≤ py) (h4 : py ≤ 32767) (h5 : -32768 ≤ ax) (h6 : ax ≤ 32767) (h7 : -32768 ≤ ay) (h8 : ay ≤ 32767) (hq : q.tmod 4 = -2) :
    Calls Try.prog 36 #[.agg #[.int .i16 px, .int .i16 py], .agg #[.int .i16 ax, .int .i16 ay], .int .i64 q] w (Gives (pin (-(px - ax) + ax) (-(py - ay) + ay)) w) := by
  rcases pin_of (-(px - ax) + ax) (-(py - ay) + ay) with ⟨a1, a2, a3, a4, e⟩ | ⟨hb, e⟩
  · rw [e]
    clear e
    go_enter Try.func36, Try.ntmps36
    go_wp2
    refine wp_loop_rounds 3 ?_
    rw [rounds_succ]
    go_wp2
    rw [rounds_succ]
    go_wp2
    rw [rounds_succ]
    go_wp2
    refine bodyPost_ret (v := .tuple #[.agg #[.int .i16 (-(px - ax) + ax), .int .i16 (-(py - ay) + ay)], .bool true]) ?_ rfl (gives_of ((((Below.refl _ w).alloc (Nat.le_refl _) _).alloc (by simp) _).alloc (by simp <;> omega) _))
    simp [results, Try.results36, go_sem]
    try omega
  · rw [e]
    clear e
    rcases hb with b1 | ⟨b1, b2⟩ | ⟨b1, b2, b3⟩ | ⟨b1, b2, b3, b4⟩
    all_goals
      go_enter Try.func36, Try.ntmps36
      go_wp2
      refine wp_loop_rounds 3 ?_
      rw [rounds_succ]
      go_wp2
      rw [rounds_succ]
      go_wp2
      rw [rounds_succ]
      go_wp2
      refine bodyPost_ret (v := .tuple #[.agg #[.int .i16 0, .int .i16 0], .bool false]) (by simp [results, Try.results36, go_sem]) rfl (gives_of ((((Below.refl _ w).alloc (Nat.le_refl _) _).alloc (by simp) _).alloc (by simp <;> omega) _))

set_option maxHeartbeats 2000000 in
theorem rturn_m1 (px py ax ay q : Int) (w : World) (h1 : -32768 ≤ px) (h2 : px ≤ 32767) (h3 : -32768 ≤ py) (h4 : py ≤ 32767) (h5 : -32768 ≤ ax) (h6 : ax ≤ 32767) (h7 : -32768 ≤ ay) (h8 : ay ≤ 32767) (hq : q.tmod 4 = -1) :
    Calls Try.prog 36 #[.agg #[.int .i16 px, .int .i16 py], .agg #[.int .i16 ax, .int .i16 ay], .int .i64 q] w (Gives (pin (py - ay + ax) (-(px - ax) + ay)) w) := by
  rcases pin_of (py - ay + ax) (-(px - ax) + ay) with ⟨a1, a2, a3, a4, e⟩ | ⟨hb, e⟩
  · rw [e]
    clear e
    go_enter Try.func36, Try.ntmps36
    go_wp2
    refine wp_loop_rounds 4 ?_
    rw [rounds_succ]
    go_wp2
    rw [rounds_succ]
    go_wp2
    rw [rounds_succ]
    go_wp2
    rw [rounds_succ]
    go_wp2
    refine bodyPost_ret (v := .tuple #[.agg #[.int .i16 (py - ay + ax), .int .i16 (-(px - ax) + ay)], .bool true]) ?_ rfl (gives_of ((((Below.refl _ w).alloc (Nat.le_refl _) _).alloc (by simp) _).alloc (by simp <;> omega) _))
    simp [results, Try.results36, go_sem]
    try omega
  · rw [e]
    clear e
    rcases hb with b1 | ⟨b1, b2⟩ | ⟨b1, b2, b3⟩ | ⟨b1, b2, b3, b4⟩
    all_goals
      go_enter Try.func36, Try.ntmps36
      go_wp2
      refine wp_loop_rounds 4 ?_
      rw [rounds_succ]
      go_wp2
      rw [rounds_succ]
      go_wp2
      rw [rounds_succ]
      go_wp2
      rw [rounds_succ]
      go_wp2
      refine bodyPost_ret (v := .tuple #[.agg #[.int .i16 0, .int .i16 0], .bool false]) (by simp [results, Try.results36, go_sem]) rfl (gives_of ((((Below.refl _ w).alloc (Nat.le_refl _) _).alloc (by simp) _).alloc (by simp <;> omega) _))

set_option maxHeartbeats 2000000 in
theorem rturn_p0 (px py ax ay q : Int) (w : World) (h1 : -32768 ≤ px) (h2 : px ≤ 32767) (h3 : -32768 ≤ py) (h4 : py ≤ 32767) (h5 : -32768 ≤ ax) (h6 : ax ≤ 32767) (h7 : -32768 ≤ ay) (h8 : ay ≤ 32767) (hq : q.tmod 4 = 0) :
    Calls Try.prog 36 #[.agg #[.int .i16 px, .int .i16 py], .agg #[.int .i16 ax, .int .i16 ay], .int .i64 q] w (Gives (pin (px - ax + ax) (py - ay + ay)) w) := by
  rcases pin_of (px - ax + ax) (py - ay + ay) with ⟨a1, a2, a3, a4, e⟩ | ⟨hb, e⟩
  · rw [e]
    clear e
    go_enter Try.func36, Try.ntmps36
    go_wp2
    refine wp_loop_rounds 1 ?_
    rw [rounds_succ]
    go_wp2
    refine bodyPost_ret (v := .tuple #[.agg #[.int .i16 (px - ax + ax), .int .i16 (py - ay + ay)], .bool true]) ?_ rfl (gives_of ((((Below.refl _ w).alloc (Nat.le_refl _) _).alloc (by simp) _).alloc (by simp <;> omega) _))
    simp [results, Try.results36, go_sem]
    try omega
  · rw [e]
    clear e
    exact absurd hb (by omega)

set_option maxHeartbeats 2000000 in
theorem rturn_p1 (px py ax ay q : Int) (w : World) (h1 : -32768 ≤ px) (h2 : px ≤ 32767) (h3 : -32768 ≤ py) (h4 : py ≤ 32767) (h5 : -32768 ≤ ax) (h6 : ax ≤ 32767) (h7 : -32768 ≤ ay) (h8 : ay ≤ 32767) (hq : q.tmod 4 = 1) :
    Calls Try.prog 36 #[.agg #[.int .i16 px, .int .i16 py], .agg #[.int .i16 ax, .int .i16 ay], .int .i64 q] w (Gives (pin (-(py - ay) + ax) (px - ax + ay)) w) := by
  rcases pin_of (-(py - ay) + ax) (px - ax + ay) with ⟨a1, a2, a3, a4, e⟩ | ⟨hb, e⟩
  · rw [e]
    clear e
    go_enter Try.func36, Try.ntmps36
    go_wp2
    refine wp_loop_rounds 2 ?_
    rw [rounds_succ]
    go_wp2
    rw [rounds_succ]
    go_wp2
    refine bodyPost_ret (v := .tuple #[.agg #[.int .i16 (-(py - ay) + ax), .int .i16 (px - ax + ay)], .bool true]) ?_ rfl (gives_of ((((Below.refl _ w).alloc (Nat.le_refl _) _).alloc (by simp) _).alloc (by simp <;> omega) _))
    simp [results, Try.results36, go_sem]
    try omega
  · rw [e]
    clear e
    rcases hb with b1 | ⟨b1, b2⟩ | ⟨b1, b2, b3⟩ | ⟨b1, b2, b3, b4⟩
    all_goals
      go_enter Try.func36, Try.ntmps36
      go_wp2
      refine wp_loop_rounds 2 ?_
      rw [rounds_succ]
      go_wp2
      rw [rounds_succ]
      go_wp2
      refine bodyPost_ret (v := .tuple #[.agg #[.int .i16 0, .int .i16 0], .bool false]) (by simp [results, Try.results36, go_sem]) rfl (gives_of ((((Below.refl _ w).alloc (Nat.le_refl _) _).alloc (by simp) _).alloc (by simp <;> omega) _))

set_option maxHeartbeats 2000000 in
theorem rturn_p2 (px py ax ay q : Int) (w : World) (h1 : -32768 ≤ px) (h2 : px ≤ 32767) (h3 : -32768 ≤ py) (h4 : py ≤ 32767) (h5 : -32768 ≤ ax) (h6 : ax ≤ 32767) (h7 : -32768 ≤ ay) (h8 : ay ≤ 32767) (hq : q.tmod 4 = 2) :
    Calls Try.prog 36 #[.agg #[.int .i16 px, .int .i16 py], .agg #[.int .i16 ax, .int .i16 ay], .int .i64 q] w (Gives (pin (-(px - ax) + ax) (-(py - ay) + ay)) w) := by
  rcases pin_of (-(px - ax) + ax) (-(py - ay) + ay) with ⟨a1, a2, a3, a4, e⟩ | ⟨hb, e⟩
  · rw [e]
    clear e
    go_enter Try.func36, Try.ntmps36
    go_wp2
    refine wp_loop_rounds 3 ?_
    rw [rounds_succ]
    go_wp2
    rw [rounds_succ]
    go_wp2
    rw [rounds_succ]
    go_wp2
    refine bodyPost_ret (v := .tuple #[.agg #[.int .i16 (-(px - ax) + ax), .int .i16 (-(py - ay) + ay)], .bool true]) ?_ rfl (gives_of ((((Below.refl _ w).alloc (Nat.le_refl _) _).alloc (by simp) _).alloc (by simp <;> omega) _))
    simp [results, Try.results36, go_sem]
    try omega
  · rw [e]
    clear e
    rcases hb with b1 | ⟨b1, b2⟩ | ⟨b1, b2, b3⟩ | ⟨b1, b2, b3, b4⟩
    all_goals
      go_enter Try.func36, Try.ntmps36
      go_wp2
      refine wp_loop_rounds 3 ?_
      rw [rounds_succ]
      go_wp2
      rw [rounds_succ]
      go_wp2
      rw [rounds_succ]
      go_wp2
      refine bodyPost_ret (v := .tuple #[.agg #[.int .i16 0, .int .i16 0], .bool false]) (by simp [results, Try.results36, go_sem]) rfl (gives_of ((((Below.refl _ w).alloc (Nat.le_refl _) _).alloc (by simp) _).alloc (by simp <;> omega) _))

set_option maxHeartbeats 2000000 in
theorem rturn_p3 (px py ax ay q : Int) (w : World) (h1 : -32768 ≤ px) (h2 : px ≤ 32767) (h3 : -32768 ≤ py) (h4 : py ≤ 32767) (h5 : -32768 ≤ ax) (h6 : ax ≤ 32767) (h7 : -32768 ≤ ay) (h8 : ay ≤ 32767) (hq : q.tmod 4 = 3) :
    Calls Try.prog 36 #[.agg #[.int .i16 px, .int .i16 py], .agg #[.int .i16 ax, .int .i16 ay], .int .i64 q] w (Gives (pin (py - ay + ax) (-(px - ax) + ay)) w) := by
  rcases pin_of (py - ay + ax) (-(px - ax) + ay) with ⟨a1, a2, a3, a4, e⟩ | ⟨hb, e⟩
  · rw [e]
    clear e
    go_enter Try.func36, Try.ntmps36
    go_wp2
    refine wp_loop_rounds 4 ?_
    rw [rounds_succ]
    go_wp2
    rw [rounds_succ]
    go_wp2
    rw [rounds_succ]
    go_wp2
    rw [rounds_succ]
    go_wp2
    refine bodyPost_ret (v := .tuple #[.agg #[.int .i16 (py - ay + ax), .int .i16 (-(px - ax) + ay)], .bool true]) ?_ rfl (gives_of ((((Below.refl _ w).alloc (Nat.le_refl _) _).alloc (by simp) _).alloc (by simp <;> omega) _))
    simp [results, Try.results36, go_sem]
    try omega
  · rw [e]
    clear e
    rcases hb with b1 | ⟨b1, b2⟩ | ⟨b1, b2, b3⟩ | ⟨b1, b2, b3, b4⟩
    all_goals
      go_enter Try.func36, Try.ntmps36
      go_wp2
      refine wp_loop_rounds 4 ?_
      rw [rounds_succ]
      go_wp2
      rw [rounds_succ]
      go_wp2
      rw [rounds_succ]
      go_wp2
      rw [rounds_succ]
      go_wp2
      refine bodyPost_ret (v := .tuple #[.agg #[.int .i16 0, .int .i16 0], .bool false]) (by simp [results, Try.results36, go_sem]) rfl (gives_of ((((Below.refl _ w).alloc (Nat.le_refl _) _).alloc (by simp) _).alloc (by simp <;> omega) _))

theorem rturn_any (px py ax ay q : Int) (w : World) (h1 : -32768 ≤ px) (h2 : px ≤ 32767) (h3 : -32768 ≤ py) (h4 : py ≤ 32767) (h5 : -32768 ≤ ax) (h6 : ax ≤ 32767) (h7 : -32768 ≤ ay) (h8 : ay ≤ 32767) :
    Calls Try.prog 36 #[.agg #[.int .i16 px, .int .i16 py], .agg #[.int .i16 ax, .int .i16 ay], .int .i64 q] w (Gives (pin (rotX (qrt q) (px - ax) (py - ay) + ax) (rotY (qrt q) (px - ax) (py - ay) + ay)) w) := by
  unfold qrt
  rcases tmod4 q with h | h | h | h | h | h | h
  · rw [h]; exact rturn_m3 px py ax ay q w h1 h2 h3 h4 h5 h6 h7 h8 h
  · rw [h]; exact rturn_m2 px py ax ay q w h1 h2 h3 h4 h5 h6 h7 h8 h
  · rw [h]; exact rturn_m1 px py ax ay q w h1 h2 h3 h4 h5 h6 h7 h8 h
  · rw [h]; exact rturn_p0 px py ax ay q w h1 h2 h3 h4 h5 h6 h7 h8 h
  · rw [h]; exact rturn_p1 px py ax ay q w h1 h2 h3 h4 h5 h6 h7 h8 h
  · rw [h]; exact rturn_p2 px py ax ay q w h1 h2 h3 h4 h5 h6 h7 h8 h
  · rw [h]; exact rturn_p3 px py ax ay q w h1 h2 h3 h4 h5 h6 h7 h8 h
end Go.Proofs.Ytilimgjmiijkiaa
