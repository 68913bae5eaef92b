/- Trip: came, right. -/
import Derived.Test.YtnooghehmgbemaaB22
namespace Go.Proofs.Ytnooghehmgbemaa
open Go.RowKit
set_option linter.unusedVariables false
set_option linter.unusedSimpArgs false

theorem cell_t {u : World} {b : Nat} {t : Tr} (ht : t.ok) {ty : TypeId} {fr : Nat × Nat} (hb : u.heap[b]? = some (.cells t.cells.toArray ty fr)) {j : Nat} {n : Int} (hn : t.ts[j]? = some n) : u.cell? ⟨b, 17 + j, none⟩ = some (.int .i64 n) := by
  rw [cell_of_row u b (17 + j) _ _ _ hb, List.getElem?_toArray, Tr.cells, List.getElem?_append_right (by rw [ht.k.1]; omega), ht.k.1, show 17 + j - 16 = j + 1 by omega, List.getElem?_cons_succ, List.getElem?_map, hn]; rfl
set_option maxHeartbeats 2000000 in
theorem came_ok (t : Tr) (ht : t.ok) (j : Nat) (hj : j < 6) (n : Int) (hn : t.ts[j]? = some n) (w : World) : Calls Try.prog 22 #[.agg t.cells.toArray, .int .u8 j] w (Gives (.bool (decide (0 ≤ n))) w) := by
  have c := cell_t ht (heap_last w (.cells t.cells.toArray 40)) hn
  have h1 := Lib.hid ht
  clear ht hn
  go_enter Try.func22, Try.ntmps22
  go_wp2
  go_ret
  exact gives_of ((Below.refl _ w).alloc (Nat.le_refl _) _)
/-- what 'last' is, round by round -/
def Lasts (ts : List Int) (c : Int) (L : Nat → Int) : Prop := L 0 = 0 ∧ ∀ j, j < 6 → (ts[j]? = some (-1) ∧ L (j + 1) = L j) ∨ ∃ n, ts[j]? = some n ∧ (n == -1) = false ∧ (decide (n < L j)) = false ∧ (decide (c < n)) = false ∧ (j == 0) = false ∧ L (j + 1) = n
theorem lasts_1 {c a : Int} (h0 : 0 ≤ a) (h1 : a ≤ c) : Lasts [-1, a, -1, -1, -1, -1] c (fun j => ([0, 0, a, a, a, a, a] : List Int).getD j 0) := by
  refine ⟨rfl, fun j hj => ?_⟩
  obtain rfl | rfl | rfl | rfl | rfl | rfl : j = 0 ∨ j = 1 ∨ j = 2 ∨ j = 3 ∨ j = 4 ∨ j = 5 := by omega
  · exact .inl ⟨rfl, rfl⟩
  · exact .inr ⟨a, rfl, beq_eq_false_iff_ne.2 (by omega), decide_eq_false (by show ¬ a < 0; omega), decide_eq_false (by omega), rfl, rfl⟩
  · exact .inl ⟨rfl, rfl⟩
  · exact .inl ⟨rfl, rfl⟩
  · exact .inl ⟨rfl, rfl⟩
  · exact .inl ⟨rfl, rfl⟩
set_option maxHeartbeats 4000000 in
theorem right_1 (t : Tr) (ht : t.ok) (c a : Int) (h0 : 0 ≤ a) (h1 : a ≤ c) (hs : t.s = 1) (hts : t.ts = [-1, a, -1, -1, -1, -1]) (w : World) : Calls Try.prog 17 #[.agg t.cells.toArray, .int .i64 c] w (Gives (.bool true) w) := by
  obtain ⟨L0, LL⟩ := lasts_1 (c := c) h0 h1
  revert L0 LL
  generalize (fun j => ([0, 0, a, a, a, a, a] : List Int).getD j 0) = L
  intro L0 LL
  have HL := Lib.hid LL
  have S0 : Bk w [] w := ⟨Below.refl _ w, by simp⟩
  have S := S0.alloc (.cells t.cells.toArray 40)
  have K1 := Lib.hid (fun u : World => fun (S : Bk w [(w.heap.size, .cells t.cells.toArray 40 (0, 0))] u) => S.gives (r := .bool true) (by have := came_ok t ht 1 (by decide) (a) (by rw [hts]; rfl) u; rwa [show decide ((0 : Int) ≤ a) = true from decide_eq_true (by omega)] at this))
  have K2 := Lib.hid (fun u : World => fun (S : Bk w [(w.heap.size, .cells t.cells.toArray 40 (0, 0))] u) => S.gives (r := .bool false) (by have := came_ok t ht 2 (by decide) (-1) (by rw [hts]; rfl) u; rwa [show decide ((0 : Int) ≤ -1) = false from rfl] at this))
  have K3 := Lib.hid (fun u : World => fun (S : Bk w [(w.heap.size, .cells t.cells.toArray 40 (0, 0))] u) => S.gives (r := .bool false) (by have := came_ok t ht 3 (by decide) (-1) (by rw [hts]; rfl) u; rwa [show decide ((0 : Int) ≤ -1) = false from rfl] at this))
  have K4 := Lib.hid (fun u : World => fun (S : Bk w [(w.heap.size, .cells t.cells.toArray 40 (0, 0))] u) => S.gives (r := .bool false) (by have := came_ok t ht 4 (by decide) (-1) (by rw [hts]; rfl) u; rwa [show decide ((0 : Int) ≤ -1) = false from rfl] at this))
  have K5 := Lib.hid (fun u : World => fun (S : Bk w [(w.heap.size, .cells t.cells.toArray 40 (0, 0))] u) => S.gives (r := .bool false) (by have := came_ok t ht 5 (by decide) (-1) (by rw [hts]; rfl) u; rwa [show decide ((0 : Int) ≤ -1) = false from rfl] at this))
  have HC := Lib.hid (fun u : World => fun (S : Bk w [(w.heap.size, .cells t.cells.toArray 40 (0, 0))] u) => (show u.cell? ⟨w.heap.size, 16, none⟩ = some (.int .u8 1) by have := cell_s ht (S.at (b := w.heap.size) (List.mem_cons_self ..)); rwa [hs] at this))
  have HT := Lib.hid (fun u : World => fun (S : Bk w [(w.heap.size, .cells t.cells.toArray 40 (0, 0))] u) (j : Nat) (n : Int) (hn : t.ts[j]? = some n) => cell_t ht (S.at (b := w.heap.size) (List.mem_cons_self ..)) hn)
  have HS := Lib.hid ht.length
  have HX := Lib.hid hts
  clear ht hs hts LL h0 h1 S0
  go_enter Try.func17, Try.ntmps17
  go_wp2_with fail
  generalize w.alloc (.cells t.cells.toArray 40) = u0 at *
  generalize w.heap.size = bx at *
  go_loopg [5, 6] 6 (fun gk v5 v6 wr => ∃ j : Nat, j + gk = 6 ∧ v5 = .int .i64 (L j) ∧ v6 = .int .i64 j ∧ Bk w [(bx, .cells t.cells.toArray 40 (0, 0))] wr)
  case atStart => exact ⟨0, rfl, by rw [L0], rfl, S⟩
  case round =>
    clear S L0
    obtain ⟨j, hj, rfl, rfl, S⟩ := hrel
    by_cases hlt : j < 6
    · rcases HL.out j hlt with ⟨hn, e1⟩ | ⟨n, hn, g1, g2, g3, g4, e1⟩
      · rw [← HX.out] at hn
        have c := HT.out wr S j _ hn
        clear hn
        go_wp2_with fail
        go_roundg (gk - 1)
        case measure => omega
        case rel => exact ⟨j + 1, by omega, by rw [e1], by go_num, S⟩
      · rw [← HX.out] at hn
        have c := HT.out wr S j _ hn
        clear hn
        go_wp2_with fail
        go_roundg (gk - 1)
        case measure => omega
        case rel => exact ⟨j + 1, by omega, by rw [e1], by go_num, S⟩
    · obtain rfl : j = 6 := by omega
      clear hlt hj
      have c := HC.out wr S
      have q := S.at (b := bx) (o := .cells t.cells.toArray 40 (0, 0)) (by simp)
      go_wp2_with (refine wpList_loadrow_g (by rfl) 40 _ (by rfl) bx (by rfl) t.cells.toArray 40 _ q Try.underlying40 rfl (by rw [List.size_toArray, HS.out]; exact size40) ?_)
      clear c q
      refine (K1.out _ S).mono ?_
      clear S
      rintro e w1 ⟨rfl, S⟩
      have c := HC.out _ S
      have q := S.at (b := bx) (o := .cells t.cells.toArray 40 (0, 0)) (by simp)
      go_wp2_with (refine wpList_loadrow_g (by rfl) 40 _ (by rfl) bx (by rfl) t.cells.toArray 40 _ q Try.underlying40 rfl (by rw [List.size_toArray, HS.out]; exact size40) ?_)
      clear c q
      refine (K1.out _ S).mono ?_
      clear S
      rintro e w2 ⟨rfl, S⟩
      have c := HC.out _ S
      have q := S.at (b := bx) (o := .cells t.cells.toArray 40 (0, 0)) (by simp)
      go_wp2_with (refine wpList_loadrow_g (by rfl) 40 _ (by rfl) bx (by rfl) t.cells.toArray 40 _ q Try.underlying40 rfl (by rw [List.size_toArray, HS.out]; exact size40) ?_)
      clear c q
      refine (K2.out _ S).mono ?_
      clear S
      rintro e w3 ⟨rfl, S⟩
      have c := HC.out _ S
      have q := S.at (b := bx) (o := .cells t.cells.toArray 40 (0, 0)) (by simp)
      go_wp2_with (refine wpList_loadrow_g (by rfl) 40 _ (by rfl) bx (by rfl) t.cells.toArray 40 _ q Try.underlying40 rfl (by rw [List.size_toArray, HS.out]; exact size40) ?_)
      clear c q
      refine (K3.out _ S).mono ?_
      clear S
      rintro e w4 ⟨rfl, S⟩
      have c := HC.out _ S
      have q := S.at (b := bx) (o := .cells t.cells.toArray 40 (0, 0)) (by simp)
      go_wp2_with (refine wpList_loadrow_g (by rfl) 40 _ (by rfl) bx (by rfl) t.cells.toArray 40 _ q Try.underlying40 rfl (by rw [List.size_toArray, HS.out]; exact size40) ?_)
      clear c q
      refine (K4.out _ S).mono ?_
      clear S
      rintro e w5 ⟨rfl, S⟩
      have c := HC.out _ S
      have q := S.at (b := bx) (o := .cells t.cells.toArray 40 (0, 0)) (by simp)
      go_wp2_with (refine wpList_loadrow_g (by rfl) 40 _ (by rfl) bx (by rfl) t.cells.toArray 40 _ q Try.underlying40 rfl (by rw [List.size_toArray, HS.out]; exact size40) ?_)
      clear c q
      refine (K5.out _ S).mono ?_
      clear S
      rintro e w6 ⟨rfl, S⟩
      have c := HC.out _ S
      have q := S.at (b := bx) (o := .cells t.cells.toArray 40 (0, 0)) (by simp)
      go_wp2_with (refine wpList_loadrow_g (by rfl) 40 _ (by rfl) bx (by rfl) t.cells.toArray 40 _ q Try.underlying40 rfl (by rw [List.size_toArray, HS.out]; exact size40) ?_)
      go_ret
      exact gives_of_eq rfl S.1
theorem lasts_15 {c a e : Int} (h0 : 0 ≤ a) (h1 : a ≤ e) (h2 : e ≤ c) : Lasts [-1, a, -1, -1, -1, e] c (fun j => ([0, 0, a, a, a, a, e] : List Int).getD j 0) := by
  refine ⟨rfl, fun j hj => ?_⟩
  obtain rfl | rfl | rfl | rfl | rfl | rfl : j = 0 ∨ j = 1 ∨ j = 2 ∨ j = 3 ∨ j = 4 ∨ j = 5 := by omega
  · exact .inl ⟨rfl, rfl⟩
  · exact .inr ⟨a, rfl, beq_eq_false_iff_ne.2 (by omega), decide_eq_false (by show ¬ a < 0; omega), decide_eq_false (by omega), rfl, rfl⟩
  · exact .inl ⟨rfl, rfl⟩
  · exact .inl ⟨rfl, rfl⟩
  · exact .inl ⟨rfl, rfl⟩
  · exact .inr ⟨e, rfl, beq_eq_false_iff_ne.2 (by omega), decide_eq_false (by show ¬ e < a; omega), decide_eq_false (by omega), rfl, rfl⟩
set_option maxHeartbeats 4000000 in
theorem right_15 (t : Tr) (ht : t.ok) (c a e : Int) (h0 : 0 ≤ a) (h1 : a ≤ e) (h2 : e ≤ c) (hs : t.s = 5) (hts : t.ts = [-1, a, -1, -1, -1, e]) (w : World) : Calls Try.prog 17 #[.agg t.cells.toArray, .int .i64 c] w (Gives (.bool true) w) := by
  obtain ⟨L0, LL⟩ := lasts_15 (c := c) h0 h1 h2
  revert L0 LL
  generalize (fun j => ([0, 0, a, a, a, a, e] : List Int).getD j 0) = L
  intro L0 LL
  have HL := Lib.hid LL
  have S0 : Bk w [] w := ⟨Below.refl _ w, by simp⟩
  have S := S0.alloc (.cells t.cells.toArray 40)
  have K1 := Lib.hid (fun u : World => fun (S : Bk w [(w.heap.size, .cells t.cells.toArray 40 (0, 0))] u) => S.gives (r := .bool true) (by have := came_ok t ht 1 (by decide) (a) (by rw [hts]; rfl) u; rwa [show decide ((0 : Int) ≤ a) = true from decide_eq_true (by omega)] at this))
  have K3 := Lib.hid (fun u : World => fun (S : Bk w [(w.heap.size, .cells t.cells.toArray 40 (0, 0))] u) => S.gives (r := .bool false) (by have := came_ok t ht 3 (by decide) (-1) (by rw [hts]; rfl) u; rwa [show decide ((0 : Int) ≤ -1) = false from rfl] at this))
  have K4 := Lib.hid (fun u : World => fun (S : Bk w [(w.heap.size, .cells t.cells.toArray 40 (0, 0))] u) => S.gives (r := .bool false) (by have := came_ok t ht 4 (by decide) (-1) (by rw [hts]; rfl) u; rwa [show decide ((0 : Int) ≤ -1) = false from rfl] at this))
  have K5 := Lib.hid (fun u : World => fun (S : Bk w [(w.heap.size, .cells t.cells.toArray 40 (0, 0))] u) => S.gives (r := .bool true) (by have := came_ok t ht 5 (by decide) (e) (by rw [hts]; rfl) u; rwa [show decide ((0 : Int) ≤ e) = true from decide_eq_true (by omega)] at this))
  have HC := Lib.hid (fun u : World => fun (S : Bk w [(w.heap.size, .cells t.cells.toArray 40 (0, 0))] u) => (show u.cell? ⟨w.heap.size, 16, none⟩ = some (.int .u8 5) by have := cell_s ht (S.at (b := w.heap.size) (List.mem_cons_self ..)); rwa [hs] at this))
  have HT := Lib.hid (fun u : World => fun (S : Bk w [(w.heap.size, .cells t.cells.toArray 40 (0, 0))] u) (j : Nat) (n : Int) (hn : t.ts[j]? = some n) => cell_t ht (S.at (b := w.heap.size) (List.mem_cons_self ..)) hn)
  have HS := Lib.hid ht.length
  have HX := Lib.hid hts
  clear ht hs hts LL h0 h1 h2 S0
  go_enter Try.func17, Try.ntmps17
  go_wp2_with fail
  generalize w.alloc (.cells t.cells.toArray 40) = u0 at *
  generalize w.heap.size = bx at *
  go_loopg [5, 6] 6 (fun gk v5 v6 wr => ∃ j : Nat, j + gk = 6 ∧ v5 = .int .i64 (L j) ∧ v6 = .int .i64 j ∧ Bk w [(bx, .cells t.cells.toArray 40 (0, 0))] wr)
  case atStart => exact ⟨0, rfl, by rw [L0], rfl, S⟩
  case round =>
    clear S L0
    obtain ⟨j, hj, rfl, rfl, S⟩ := hrel
    by_cases hlt : j < 6
    · rcases HL.out j hlt with ⟨hn, e1⟩ | ⟨n, hn, g1, g2, g3, g4, e1⟩
      · rw [← HX.out] at hn
        have c := HT.out wr S j _ hn
        clear hn
        go_wp2_with fail
        go_roundg (gk - 1)
        case measure => omega
        case rel => exact ⟨j + 1, by omega, by rw [e1], by go_num, S⟩
      · rw [← HX.out] at hn
        have c := HT.out wr S j _ hn
        clear hn
        go_wp2_with fail
        go_roundg (gk - 1)
        case measure => omega
        case rel => exact ⟨j + 1, by omega, by rw [e1], by go_num, S⟩
    · obtain rfl : j = 6 := by omega
      clear hlt hj
      have c := HC.out wr S
      have q := S.at (b := bx) (o := .cells t.cells.toArray 40 (0, 0)) (by simp)
      go_wp2_with (refine wpList_loadrow_g (by rfl) 40 _ (by rfl) bx (by rfl) t.cells.toArray 40 _ q Try.underlying40 rfl (by rw [List.size_toArray, HS.out]; exact size40) ?_)
      clear c q
      refine (K1.out _ S).mono ?_
      clear S
      rintro e w1 ⟨rfl, S⟩
      have c := HC.out _ S
      have q := S.at (b := bx) (o := .cells t.cells.toArray 40 (0, 0)) (by simp)
      go_wp2_with (refine wpList_loadrow_g (by rfl) 40 _ (by rfl) bx (by rfl) t.cells.toArray 40 _ q Try.underlying40 rfl (by rw [List.size_toArray, HS.out]; exact size40) ?_)
      clear c q
      refine (K5.out _ S).mono ?_
      clear S
      rintro e w2 ⟨rfl, S⟩
      have c := HC.out _ S
      have q := S.at (b := bx) (o := .cells t.cells.toArray 40 (0, 0)) (by simp)
      go_wp2_with (refine wpList_loadrow_g (by rfl) 40 _ (by rfl) bx (by rfl) t.cells.toArray 40 _ q Try.underlying40 rfl (by rw [List.size_toArray, HS.out]; exact size40) ?_)
      clear c q
      refine (K3.out _ S).mono ?_
      clear S
      rintro e w3 ⟨rfl, S⟩
      have c := HC.out _ S
      have q := S.at (b := bx) (o := .cells t.cells.toArray 40 (0, 0)) (by simp)
      go_wp2_with (refine wpList_loadrow_g (by rfl) 40 _ (by rfl) bx (by rfl) t.cells.toArray 40 _ q Try.underlying40 rfl (by rw [List.size_toArray, HS.out]; exact size40) ?_)
      clear c q
      refine (K4.out _ S).mono ?_
      clear S
      rintro e w4 ⟨rfl, S⟩
      have c := HC.out _ S
      have q := S.at (b := bx) (o := .cells t.cells.toArray 40 (0, 0)) (by simp)
      go_wp2_with (refine wpList_loadrow_g (by rfl) 40 _ (by rfl) bx (by rfl) t.cells.toArray 40 _ q Try.underlying40 rfl (by rw [List.size_toArray, HS.out]; exact size40) ?_)
      go_ret
      exact gives_of_eq rfl S.1
theorem lasts_2 {c a b : Int} (h0 : 0 ≤ a) (h1 : a ≤ b) (h2 : b ≤ c) : Lasts [-1, a, b, -1, -1, -1] c (fun j => ([0, 0, a, b, b, b, b] : List Int).getD j 0) := by
  refine ⟨rfl, fun j hj => ?_⟩
  obtain rfl | rfl | rfl | rfl | rfl | rfl : j = 0 ∨ j = 1 ∨ j = 2 ∨ j = 3 ∨ j = 4 ∨ j = 5 := by omega
  · exact .inl ⟨rfl, rfl⟩
  · exact .inr ⟨a, rfl, beq_eq_false_iff_ne.2 (by omega), decide_eq_false (by show ¬ a < 0; omega), decide_eq_false (by omega), rfl, rfl⟩
  · exact .inr ⟨b, rfl, beq_eq_false_iff_ne.2 (by omega), decide_eq_false (by show ¬ b < a; omega), decide_eq_false (by omega), rfl, rfl⟩
  · exact .inl ⟨rfl, rfl⟩
  · exact .inl ⟨rfl, rfl⟩
  · exact .inl ⟨rfl, rfl⟩
set_option maxHeartbeats 4000000 in
theorem right_2 (t : Tr) (ht : t.ok) (c a b : Int) (h0 : 0 ≤ a) (h1 : a ≤ b) (h2 : b ≤ c) (hs : t.s = 2) (hts : t.ts = [-1, a, b, -1, -1, -1]) (w : World) : Calls Try.prog 17 #[.agg t.cells.toArray, .int .i64 c] w (Gives (.bool true) w) := by
  obtain ⟨L0, LL⟩ := lasts_2 (c := c) h0 h1 h2
  revert L0 LL
  generalize (fun j => ([0, 0, a, b, b, b, b] : List Int).getD j 0) = L
  intro L0 LL
  have HL := Lib.hid LL
  have S0 : Bk w [] w := ⟨Below.refl _ w, by simp⟩
  have S := S0.alloc (.cells t.cells.toArray 40)
  have K1 := Lib.hid (fun u : World => fun (S : Bk w [(w.heap.size, .cells t.cells.toArray 40 (0, 0))] u) => S.gives (r := .bool true) (by have := came_ok t ht 1 (by decide) (a) (by rw [hts]; rfl) u; rwa [show decide ((0 : Int) ≤ a) = true from decide_eq_true (by omega)] at this))
  have K2 := Lib.hid (fun u : World => fun (S : Bk w [(w.heap.size, .cells t.cells.toArray 40 (0, 0))] u) => S.gives (r := .bool true) (by have := came_ok t ht 2 (by decide) (b) (by rw [hts]; rfl) u; rwa [show decide ((0 : Int) ≤ b) = true from decide_eq_true (by omega)] at this))
  have K3 := Lib.hid (fun u : World => fun (S : Bk w [(w.heap.size, .cells t.cells.toArray 40 (0, 0))] u) => S.gives (r := .bool false) (by have := came_ok t ht 3 (by decide) (-1) (by rw [hts]; rfl) u; rwa [show decide ((0 : Int) ≤ -1) = false from rfl] at this))
  have K4 := Lib.hid (fun u : World => fun (S : Bk w [(w.heap.size, .cells t.cells.toArray 40 (0, 0))] u) => S.gives (r := .bool false) (by have := came_ok t ht 4 (by decide) (-1) (by rw [hts]; rfl) u; rwa [show decide ((0 : Int) ≤ -1) = false from rfl] at this))
  have K5 := Lib.hid (fun u : World => fun (S : Bk w [(w.heap.size, .cells t.cells.toArray 40 (0, 0))] u) => S.gives (r := .bool false) (by have := came_ok t ht 5 (by decide) (-1) (by rw [hts]; rfl) u; rwa [show decide ((0 : Int) ≤ -1) = false from rfl] at this))
  have HC := Lib.hid (fun u : World => fun (S : Bk w [(w.heap.size, .cells t.cells.toArray 40 (0, 0))] u) => (show u.cell? ⟨w.heap.size, 16, none⟩ = some (.int .u8 2) by have := cell_s ht (S.at (b := w.heap.size) (List.mem_cons_self ..)); rwa [hs] at this))
  have HT := Lib.hid (fun u : World => fun (S : Bk w [(w.heap.size, .cells t.cells.toArray 40 (0, 0))] u) (j : Nat) (n : Int) (hn : t.ts[j]? = some n) => cell_t ht (S.at (b := w.heap.size) (List.mem_cons_self ..)) hn)
  have HS := Lib.hid ht.length
  have HX := Lib.hid hts
  clear ht hs hts LL h0 h1 h2 S0
  go_enter Try.func17, Try.ntmps17
  go_wp2_with fail
  generalize w.alloc (.cells t.cells.toArray 40) = u0 at *
  generalize w.heap.size = bx at *
  go_loopg [5, 6] 6 (fun gk v5 v6 wr => ∃ j : Nat, j + gk = 6 ∧ v5 = .int .i64 (L j) ∧ v6 = .int .i64 j ∧ Bk w [(bx, .cells t.cells.toArray 40 (0, 0))] wr)
  case atStart => exact ⟨0, rfl, by rw [L0], rfl, S⟩
  case round =>
    clear S L0
    obtain ⟨j, hj, rfl, rfl, S⟩ := hrel
    by_cases hlt : j < 6
    · rcases HL.out j hlt with ⟨hn, e1⟩ | ⟨n, hn, g1, g2, g3, g4, e1⟩
      · rw [← HX.out] at hn
        have c := HT.out wr S j _ hn
        clear hn
        go_wp2_with fail
        go_roundg (gk - 1)
        case measure => omega
        case rel => exact ⟨j + 1, by omega, by rw [e1], by go_num, S⟩
      · rw [← HX.out] at hn
        have c := HT.out wr S j _ hn
        clear hn
        go_wp2_with fail
        go_roundg (gk - 1)
        case measure => omega
        case rel => exact ⟨j + 1, by omega, by rw [e1], by go_num, S⟩
    · obtain rfl : j = 6 := by omega
      clear hlt hj
      have c := HC.out wr S
      have q := S.at (b := bx) (o := .cells t.cells.toArray 40 (0, 0)) (by simp)
      go_wp2_with (refine wpList_loadrow_g (by rfl) 40 _ (by rfl) bx (by rfl) t.cells.toArray 40 _ q Try.underlying40 rfl (by rw [List.size_toArray, HS.out]; exact size40) ?_)
      clear c q
      refine (K1.out _ S).mono ?_
      clear S
      rintro e w1 ⟨rfl, S⟩
      have c := HC.out _ S
      have q := S.at (b := bx) (o := .cells t.cells.toArray 40 (0, 0)) (by simp)
      go_wp2_with (refine wpList_loadrow_g (by rfl) 40 _ (by rfl) bx (by rfl) t.cells.toArray 40 _ q Try.underlying40 rfl (by rw [List.size_toArray, HS.out]; exact size40) ?_)
      clear c q
      refine (K2.out _ S).mono ?_
      clear S
      rintro e w2 ⟨rfl, S⟩
      have c := HC.out _ S
      have q := S.at (b := bx) (o := .cells t.cells.toArray 40 (0, 0)) (by simp)
      go_wp2_with (refine wpList_loadrow_g (by rfl) 40 _ (by rfl) bx (by rfl) t.cells.toArray 40 _ q Try.underlying40 rfl (by rw [List.size_toArray, HS.out]; exact size40) ?_)
      clear c q
      refine (K3.out _ S).mono ?_
      clear S
      rintro e w3 ⟨rfl, S⟩
      have c := HC.out _ S
      have q := S.at (b := bx) (o := .cells t.cells.toArray 40 (0, 0)) (by simp)
      go_wp2_with (refine wpList_loadrow_g (by rfl) 40 _ (by rfl) bx (by rfl) t.cells.toArray 40 _ q Try.underlying40 rfl (by rw [List.size_toArray, HS.out]; exact size40) ?_)
      clear c q
      refine (K4.out _ S).mono ?_
      clear S
      rintro e w4 ⟨rfl, S⟩
      have c := HC.out _ S
      have q := S.at (b := bx) (o := .cells t.cells.toArray 40 (0, 0)) (by simp)
      go_wp2_with (refine wpList_loadrow_g (by rfl) 40 _ (by rfl) bx (by rfl) t.cells.toArray 40 _ q Try.underlying40 rfl (by rw [List.size_toArray, HS.out]; exact size40) ?_)
      clear c q
      refine (K5.out _ S).mono ?_
      clear S
      rintro e w5 ⟨rfl, S⟩
      have c := HC.out _ S
      have q := S.at (b := bx) (o := .cells t.cells.toArray 40 (0, 0)) (by simp)
      go_wp2_with (refine wpList_loadrow_g (by rfl) 40 _ (by rfl) bx (by rfl) t.cells.toArray 40 _ q Try.underlying40 rfl (by rw [List.size_toArray, HS.out]; exact size40) ?_)
      go_ret
      exact gives_of_eq rfl S.1
theorem lasts_25 {c a b e : Int} (h0 : 0 ≤ a) (h1 : a ≤ b) (h2 : b ≤ e) (h3 : e ≤ c) : Lasts [-1, a, b, -1, -1, e] c (fun j => ([0, 0, a, b, b, b, e] : List Int).getD j 0) := by
  refine ⟨rfl, fun j hj => ?_⟩
  obtain rfl | rfl | rfl | rfl | rfl | rfl : j = 0 ∨ j = 1 ∨ j = 2 ∨ j = 3 ∨ j = 4 ∨ j = 5 := by omega
  · exact .inl ⟨rfl, rfl⟩
  · exact .inr ⟨a, rfl, beq_eq_false_iff_ne.2 (by omega), decide_eq_false (by show ¬ a < 0; omega), decide_eq_false (by omega), rfl, rfl⟩
  · exact .inr ⟨b, rfl, beq_eq_false_iff_ne.2 (by omega), decide_eq_false (by show ¬ b < a; omega), decide_eq_false (by omega), rfl, rfl⟩
  · exact .inl ⟨rfl, rfl⟩
  · exact .inl ⟨rfl, rfl⟩
  · exact .inr ⟨e, rfl, beq_eq_false_iff_ne.2 (by omega), decide_eq_false (by show ¬ e < b; omega), decide_eq_false (by omega), rfl, rfl⟩
set_option maxHeartbeats 4000000 in
theorem right_25 (t : Tr) (ht : t.ok) (c a b e : Int) (h0 : 0 ≤ a) (h1 : a ≤ b) (h2 : b ≤ e) (h3 : e ≤ c) (hs : t.s = 5) (hts : t.ts = [-1, a, b, -1, -1, e]) (w : World) : Calls Try.prog 17 #[.agg t.cells.toArray, .int .i64 c] w (Gives (.bool true) w) := by
  obtain ⟨L0, LL⟩ := lasts_25 (c := c) h0 h1 h2 h3
  revert L0 LL
  generalize (fun j => ([0, 0, a, b, b, b, e] : List Int).getD j 0) = L
  intro L0 LL
  have HL := Lib.hid LL
  have S0 : Bk w [] w := ⟨Below.refl _ w, by simp⟩
  have S := S0.alloc (.cells t.cells.toArray 40)
  have K1 := Lib.hid (fun u : World => fun (S : Bk w [(w.heap.size, .cells t.cells.toArray 40 (0, 0))] u) => S.gives (r := .bool true) (by have := came_ok t ht 1 (by decide) (a) (by rw [hts]; rfl) u; rwa [show decide ((0 : Int) ≤ a) = true from decide_eq_true (by omega)] at this))
  have K3 := Lib.hid (fun u : World => fun (S : Bk w [(w.heap.size, .cells t.cells.toArray 40 (0, 0))] u) => S.gives (r := .bool false) (by have := came_ok t ht 3 (by decide) (-1) (by rw [hts]; rfl) u; rwa [show decide ((0 : Int) ≤ -1) = false from rfl] at this))
  have K4 := Lib.hid (fun u : World => fun (S : Bk w [(w.heap.size, .cells t.cells.toArray 40 (0, 0))] u) => S.gives (r := .bool false) (by have := came_ok t ht 4 (by decide) (-1) (by rw [hts]; rfl) u; rwa [show decide ((0 : Int) ≤ -1) = false from rfl] at this))
  have K5 := Lib.hid (fun u : World => fun (S : Bk w [(w.heap.size, .cells t.cells.toArray 40 (0, 0))] u) => S.gives (r := .bool true) (by have := came_ok t ht 5 (by decide) (e) (by rw [hts]; rfl) u; rwa [show decide ((0 : Int) ≤ e) = true from decide_eq_true (by omega)] at this))
  have HC := Lib.hid (fun u : World => fun (S : Bk w [(w.heap.size, .cells t.cells.toArray 40 (0, 0))] u) => (show u.cell? ⟨w.heap.size, 16, none⟩ = some (.int .u8 5) by have := cell_s ht (S.at (b := w.heap.size) (List.mem_cons_self ..)); rwa [hs] at this))
  have HT := Lib.hid (fun u : World => fun (S : Bk w [(w.heap.size, .cells t.cells.toArray 40 (0, 0))] u) (j : Nat) (n : Int) (hn : t.ts[j]? = some n) => cell_t ht (S.at (b := w.heap.size) (List.mem_cons_self ..)) hn)
  have HS := Lib.hid ht.length
  have HX := Lib.hid hts
  clear ht hs hts LL h0 h1 h2 h3 S0
  go_enter Try.func17, Try.ntmps17
  go_wp2_with fail
  generalize w.alloc (.cells t.cells.toArray 40) = u0 at *
  generalize w.heap.size = bx at *
  go_loopg [5, 6] 6 (fun gk v5 v6 wr => ∃ j : Nat, j + gk = 6 ∧ v5 = .int .i64 (L j) ∧ v6 = .int .i64 j ∧ Bk w [(bx, .cells t.cells.toArray 40 (0, 0))] wr)
  case atStart => exact ⟨0, rfl, by rw [L0], rfl, S⟩
  case round =>
    clear S L0
    obtain ⟨j, hj, rfl, rfl, S⟩ := hrel
    by_cases hlt : j < 6
    · rcases HL.out j hlt with ⟨hn, e1⟩ | ⟨n, hn, g1, g2, g3, g4, e1⟩
      · rw [← HX.out] at hn
        have c := HT.out wr S j _ hn
        clear hn
        go_wp2_with fail
        go_roundg (gk - 1)
        case measure => omega
        case rel => exact ⟨j + 1, by omega, by rw [e1], by go_num, S⟩
      · rw [← HX.out] at hn
        have c := HT.out wr S j _ hn
        clear hn
        go_wp2_with fail
        go_roundg (gk - 1)
        case measure => omega
        case rel => exact ⟨j + 1, by omega, by rw [e1], by go_num, S⟩
    · obtain rfl : j = 6 := by omega
      clear hlt hj
      have c := HC.out wr S
      have q := S.at (b := bx) (o := .cells t.cells.toArray 40 (0, 0)) (by simp)
      go_wp2_with (refine wpList_loadrow_g (by rfl) 40 _ (by rfl) bx (by rfl) t.cells.toArray 40 _ q Try.underlying40 rfl (by rw [List.size_toArray, HS.out]; exact size40) ?_)
      clear c q
      refine (K1.out _ S).mono ?_
      clear S
      rintro e w1 ⟨rfl, S⟩
      have c := HC.out _ S
      have q := S.at (b := bx) (o := .cells t.cells.toArray 40 (0, 0)) (by simp)
      go_wp2_with (refine wpList_loadrow_g (by rfl) 40 _ (by rfl) bx (by rfl) t.cells.toArray 40 _ q Try.underlying40 rfl (by rw [List.size_toArray, HS.out]; exact size40) ?_)
      clear c q
      refine (K5.out _ S).mono ?_
      clear S
      rintro e w2 ⟨rfl, S⟩
      have c := HC.out _ S
      have q := S.at (b := bx) (o := .cells t.cells.toArray 40 (0, 0)) (by simp)
      go_wp2_with (refine wpList_loadrow_g (by rfl) 40 _ (by rfl) bx (by rfl) t.cells.toArray 40 _ q Try.underlying40 rfl (by rw [List.size_toArray, HS.out]; exact size40) ?_)
      clear c q
      refine (K3.out _ S).mono ?_
      clear S
      rintro e w3 ⟨rfl, S⟩
      have c := HC.out _ S
      have q := S.at (b := bx) (o := .cells t.cells.toArray 40 (0, 0)) (by simp)
      go_wp2_with (refine wpList_loadrow_g (by rfl) 40 _ (by rfl) bx (by rfl) t.cells.toArray 40 _ q Try.underlying40 rfl (by rw [List.size_toArray, HS.out]; exact size40) ?_)
      clear c q
      refine (K4.out _ S).mono ?_
      clear S
      rintro e w4 ⟨rfl, S⟩
      have c := HC.out _ S
      have q := S.at (b := bx) (o := .cells t.cells.toArray 40 (0, 0)) (by simp)
      go_wp2_with (refine wpList_loadrow_g (by rfl) 40 _ (by rfl) bx (by rfl) t.cells.toArray 40 _ q Try.underlying40 rfl (by rw [List.size_toArray, HS.out]; exact size40) ?_)
      go_ret
      exact gives_of_eq rfl S.1
theorem lasts_3 {c a b d : Int} (h0 : 0 ≤ a) (h1 : a ≤ b) (h2 : b ≤ d) (h3 : d ≤ c) : Lasts [-1, a, b, d, -1, -1] c (fun j => ([0, 0, a, b, d, d, d] : List Int).getD j 0) := by
  refine ⟨rfl, fun j hj => ?_⟩
  obtain rfl | rfl | rfl | rfl | rfl | rfl : j = 0 ∨ j = 1 ∨ j = 2 ∨ j = 3 ∨ j = 4 ∨ j = 5 := by omega
  · exact .inl ⟨rfl, rfl⟩
  · exact .inr ⟨a, rfl, beq_eq_false_iff_ne.2 (by omega), decide_eq_false (by show ¬ a < 0; omega), decide_eq_false (by omega), rfl, rfl⟩
  · exact .inr ⟨b, rfl, beq_eq_false_iff_ne.2 (by omega), decide_eq_false (by show ¬ b < a; omega), decide_eq_false (by omega), rfl, rfl⟩
  · exact .inr ⟨d, rfl, beq_eq_false_iff_ne.2 (by omega), decide_eq_false (by show ¬ d < b; omega), decide_eq_false (by omega), rfl, rfl⟩
  · exact .inl ⟨rfl, rfl⟩
  · exact .inl ⟨rfl, rfl⟩
set_option maxHeartbeats 4000000 in
theorem right_3 (t : Tr) (ht : t.ok) (c a b d : Int) (h0 : 0 ≤ a) (h1 : a ≤ b) (h2 : b ≤ d) (h3 : d ≤ c) (hs : t.s = 3) (hts : t.ts = [-1, a, b, d, -1, -1]) (w : World) : Calls Try.prog 17 #[.agg t.cells.toArray, .int .i64 c] w (Gives (.bool true) w) := by
  obtain ⟨L0, LL⟩ := lasts_3 (c := c) h0 h1 h2 h3
  revert L0 LL
  generalize (fun j => ([0, 0, a, b, d, d, d] : List Int).getD j 0) = L
  intro L0 LL
  have HL := Lib.hid LL
  have S0 : Bk w [] w := ⟨Below.refl _ w, by simp⟩
  have S := S0.alloc (.cells t.cells.toArray 40)
  have K1 := Lib.hid (fun u : World => fun (S : Bk w [(w.heap.size, .cells t.cells.toArray 40 (0, 0))] u) => S.gives (r := .bool true) (by have := came_ok t ht 1 (by decide) (a) (by rw [hts]; rfl) u; rwa [show decide ((0 : Int) ≤ a) = true from decide_eq_true (by omega)] at this))
  have K2 := Lib.hid (fun u : World => fun (S : Bk w [(w.heap.size, .cells t.cells.toArray 40 (0, 0))] u) => S.gives (r := .bool true) (by have := came_ok t ht 2 (by decide) (b) (by rw [hts]; rfl) u; rwa [show decide ((0 : Int) ≤ b) = true from decide_eq_true (by omega)] at this))
  have K3 := Lib.hid (fun u : World => fun (S : Bk w [(w.heap.size, .cells t.cells.toArray 40 (0, 0))] u) => S.gives (r := .bool true) (by have := came_ok t ht 3 (by decide) (d) (by rw [hts]; rfl) u; rwa [show decide ((0 : Int) ≤ d) = true from decide_eq_true (by omega)] at this))
  have K4 := Lib.hid (fun u : World => fun (S : Bk w [(w.heap.size, .cells t.cells.toArray 40 (0, 0))] u) => S.gives (r := .bool false) (by have := came_ok t ht 4 (by decide) (-1) (by rw [hts]; rfl) u; rwa [show decide ((0 : Int) ≤ -1) = false from rfl] at this))
  have K5 := Lib.hid (fun u : World => fun (S : Bk w [(w.heap.size, .cells t.cells.toArray 40 (0, 0))] u) => S.gives (r := .bool false) (by have := came_ok t ht 5 (by decide) (-1) (by rw [hts]; rfl) u; rwa [show decide ((0 : Int) ≤ -1) = false from rfl] at this))
  have HC := Lib.hid (fun u : World => fun (S : Bk w [(w.heap.size, .cells t.cells.toArray 40 (0, 0))] u) => (show u.cell? ⟨w.heap.size, 16, none⟩ = some (.int .u8 3) by have := cell_s ht (S.at (b := w.heap.size) (List.mem_cons_self ..)); rwa [hs] at this))
  have HT := Lib.hid (fun u : World => fun (S : Bk w [(w.heap.size, .cells t.cells.toArray 40 (0, 0))] u) (j : Nat) (n : Int) (hn : t.ts[j]? = some n) => cell_t ht (S.at (b := w.heap.size) (List.mem_cons_self ..)) hn)
  have HS := Lib.hid ht.length
  have HX := Lib.hid hts
  clear ht hs hts LL h0 h1 h2 h3 S0
  go_enter Try.func17, Try.ntmps17
  go_wp2_with fail
  generalize w.alloc (.cells t.cells.toArray 40) = u0 at *
  generalize w.heap.size = bx at *
  go_loopg [5, 6] 6 (fun gk v5 v6 wr => ∃ j : Nat, j + gk = 6 ∧ v5 = .int .i64 (L j) ∧ v6 = .int .i64 j ∧ Bk w [(bx, .cells t.cells.toArray 40 (0, 0))] wr)
  case atStart => exact ⟨0, rfl, by rw [L0], rfl, S⟩
  case round =>
    clear S L0
    obtain ⟨j, hj, rfl, rfl, S⟩ := hrel
    by_cases hlt : j < 6
    · rcases HL.out j hlt with ⟨hn, e1⟩ | ⟨n, hn, g1, g2, g3, g4, e1⟩
      · rw [← HX.out] at hn
        have c := HT.out wr S j _ hn
        clear hn
        go_wp2_with fail
        go_roundg (gk - 1)
        case measure => omega
        case rel => exact ⟨j + 1, by omega, by rw [e1], by go_num, S⟩
      · rw [← HX.out] at hn
        have c := HT.out wr S j _ hn
        clear hn
        go_wp2_with fail
        go_roundg (gk - 1)
        case measure => omega
        case rel => exact ⟨j + 1, by omega, by rw [e1], by go_num, S⟩
    · obtain rfl : j = 6 := by omega
      clear hlt hj
      have c := HC.out wr S
      have q := S.at (b := bx) (o := .cells t.cells.toArray 40 (0, 0)) (by simp)
      go_wp2_with (refine wpList_loadrow_g (by rfl) 40 _ (by rfl) bx (by rfl) t.cells.toArray 40 _ q Try.underlying40 rfl (by rw [List.size_toArray, HS.out]; exact size40) ?_)
      clear c q
      refine (K1.out _ S).mono ?_
      clear S
      rintro e w1 ⟨rfl, S⟩
      have c := HC.out _ S
      have q := S.at (b := bx) (o := .cells t.cells.toArray 40 (0, 0)) (by simp)
      go_wp2_with (refine wpList_loadrow_g (by rfl) 40 _ (by rfl) bx (by rfl) t.cells.toArray 40 _ q Try.underlying40 rfl (by rw [List.size_toArray, HS.out]; exact size40) ?_)
      clear c q
      refine (K3.out _ S).mono ?_
      clear S
      rintro e w2 ⟨rfl, S⟩
      have c := HC.out _ S
      have q := S.at (b := bx) (o := .cells t.cells.toArray 40 (0, 0)) (by simp)
      go_wp2_with (refine wpList_loadrow_g (by rfl) 40 _ (by rfl) bx (by rfl) t.cells.toArray 40 _ q Try.underlying40 rfl (by rw [List.size_toArray, HS.out]; exact size40) ?_)
      clear c q
      refine (K2.out _ S).mono ?_
      clear S
      rintro e w3 ⟨rfl, S⟩
      have c := HC.out _ S
      have q := S.at (b := bx) (o := .cells t.cells.toArray 40 (0, 0)) (by simp)
      go_wp2_with (refine wpList_loadrow_g (by rfl) 40 _ (by rfl) bx (by rfl) t.cells.toArray 40 _ q Try.underlying40 rfl (by rw [List.size_toArray, HS.out]; exact size40) ?_)
      clear c q
      refine (K4.out _ S).mono ?_
      clear S
      rintro e w4 ⟨rfl, S⟩
      have c := HC.out _ S
      have q := S.at (b := bx) (o := .cells t.cells.toArray 40 (0, 0)) (by simp)
      go_wp2_with (refine wpList_loadrow_g (by rfl) 40 _ (by rfl) bx (by rfl) t.cells.toArray 40 _ q Try.underlying40 rfl (by rw [List.size_toArray, HS.out]; exact size40) ?_)
      clear c q
      refine (K5.out _ S).mono ?_
      clear S
      rintro e w5 ⟨rfl, S⟩
      have c := HC.out _ S
      have q := S.at (b := bx) (o := .cells t.cells.toArray 40 (0, 0)) (by simp)
      go_wp2_with (refine wpList_loadrow_g (by rfl) 40 _ (by rfl) bx (by rfl) t.cells.toArray 40 _ q Try.underlying40 rfl (by rw [List.size_toArray, HS.out]; exact size40) ?_)
      go_ret
      exact gives_of_eq rfl S.1
theorem lasts_4 {c a b d e : Int} (h0 : 0 ≤ a) (h1 : a ≤ b) (h2 : b ≤ d) (h3 : d ≤ e) (h4 : e ≤ c) : Lasts [-1, a, b, d, e, -1] c (fun j => ([0, 0, a, b, d, e, e] : List Int).getD j 0) := by
  refine ⟨rfl, fun j hj => ?_⟩
  obtain rfl | rfl | rfl | rfl | rfl | rfl : j = 0 ∨ j = 1 ∨ j = 2 ∨ j = 3 ∨ j = 4 ∨ j = 5 := by omega
  · exact .inl ⟨rfl, rfl⟩
  · exact .inr ⟨a, rfl, beq_eq_false_iff_ne.2 (by omega), decide_eq_false (by show ¬ a < 0; omega), decide_eq_false (by omega), rfl, rfl⟩
  · exact .inr ⟨b, rfl, beq_eq_false_iff_ne.2 (by omega), decide_eq_false (by show ¬ b < a; omega), decide_eq_false (by omega), rfl, rfl⟩
  · exact .inr ⟨d, rfl, beq_eq_false_iff_ne.2 (by omega), decide_eq_false (by show ¬ d < b; omega), decide_eq_false (by omega), rfl, rfl⟩
  · exact .inr ⟨e, rfl, beq_eq_false_iff_ne.2 (by omega), decide_eq_false (by show ¬ e < d; omega), decide_eq_false (by omega), rfl, rfl⟩
  · exact .inl ⟨rfl, rfl⟩
set_option maxHeartbeats 4000000 in
theorem right_4 (t : Tr) (ht : t.ok) (c a b d e : Int) (h0 : 0 ≤ a) (h1 : a ≤ b) (h2 : b ≤ d) (h3 : d ≤ e) (h4 : e ≤ c) (hs : t.s = 4) (hts : t.ts = [-1, a, b, d, e, -1]) (w : World) : Calls Try.prog 17 #[.agg t.cells.toArray, .int .i64 c] w (Gives (.bool true) w) := by
  obtain ⟨L0, LL⟩ := lasts_4 (c := c) h0 h1 h2 h3 h4
  revert L0 LL
  generalize (fun j => ([0, 0, a, b, d, e, e] : List Int).getD j 0) = L
  intro L0 LL
  have HL := Lib.hid LL
  have S0 : Bk w [] w := ⟨Below.refl _ w, by simp⟩
  have S := S0.alloc (.cells t.cells.toArray 40)
  have K1 := Lib.hid (fun u : World => fun (S : Bk w [(w.heap.size, .cells t.cells.toArray 40 (0, 0))] u) => S.gives (r := .bool true) (by have := came_ok t ht 1 (by decide) (a) (by rw [hts]; rfl) u; rwa [show decide ((0 : Int) ≤ a) = true from decide_eq_true (by omega)] at this))
  have K2 := Lib.hid (fun u : World => fun (S : Bk w [(w.heap.size, .cells t.cells.toArray 40 (0, 0))] u) => S.gives (r := .bool true) (by have := came_ok t ht 2 (by decide) (b) (by rw [hts]; rfl) u; rwa [show decide ((0 : Int) ≤ b) = true from decide_eq_true (by omega)] at this))
  have K3 := Lib.hid (fun u : World => fun (S : Bk w [(w.heap.size, .cells t.cells.toArray 40 (0, 0))] u) => S.gives (r := .bool true) (by have := came_ok t ht 3 (by decide) (d) (by rw [hts]; rfl) u; rwa [show decide ((0 : Int) ≤ d) = true from decide_eq_true (by omega)] at this))
  have K4 := Lib.hid (fun u : World => fun (S : Bk w [(w.heap.size, .cells t.cells.toArray 40 (0, 0))] u) => S.gives (r := .bool true) (by have := came_ok t ht 4 (by decide) (e) (by rw [hts]; rfl) u; rwa [show decide ((0 : Int) ≤ e) = true from decide_eq_true (by omega)] at this))
  have K5 := Lib.hid (fun u : World => fun (S : Bk w [(w.heap.size, .cells t.cells.toArray 40 (0, 0))] u) => S.gives (r := .bool false) (by have := came_ok t ht 5 (by decide) (-1) (by rw [hts]; rfl) u; rwa [show decide ((0 : Int) ≤ -1) = false from rfl] at this))
  have HC := Lib.hid (fun u : World => fun (S : Bk w [(w.heap.size, .cells t.cells.toArray 40 (0, 0))] u) => (show u.cell? ⟨w.heap.size, 16, none⟩ = some (.int .u8 4) by have := cell_s ht (S.at (b := w.heap.size) (List.mem_cons_self ..)); rwa [hs] at this))
  have HT := Lib.hid (fun u : World => fun (S : Bk w [(w.heap.size, .cells t.cells.toArray 40 (0, 0))] u) (j : Nat) (n : Int) (hn : t.ts[j]? = some n) => cell_t ht (S.at (b := w.heap.size) (List.mem_cons_self ..)) hn)
  have HS := Lib.hid ht.length
  have HX := Lib.hid hts
  clear ht hs hts LL h0 h1 h2 h3 h4 S0
  go_enter Try.func17, Try.ntmps17
  go_wp2_with fail
  generalize w.alloc (.cells t.cells.toArray 40) = u0 at *
  generalize w.heap.size = bx at *
  go_loopg [5, 6] 6 (fun gk v5 v6 wr => ∃ j : Nat, j + gk = 6 ∧ v5 = .int .i64 (L j) ∧ v6 = .int .i64 j ∧ Bk w [(bx, .cells t.cells.toArray 40 (0, 0))] wr)
  case atStart => exact ⟨0, rfl, by rw [L0], rfl, S⟩
  case round =>
    clear S L0
    obtain ⟨j, hj, rfl, rfl, S⟩ := hrel
    by_cases hlt : j < 6
    · rcases HL.out j hlt with ⟨hn, e1⟩ | ⟨n, hn, g1, g2, g3, g4, e1⟩
      · rw [← HX.out] at hn
        have c := HT.out wr S j _ hn
        clear hn
        go_wp2_with fail
        go_roundg (gk - 1)
        case measure => omega
        case rel => exact ⟨j + 1, by omega, by rw [e1], by go_num, S⟩
      · rw [← HX.out] at hn
        have c := HT.out wr S j _ hn
        clear hn
        go_wp2_with fail
        go_roundg (gk - 1)
        case measure => omega
        case rel => exact ⟨j + 1, by omega, by rw [e1], by go_num, S⟩
    · obtain rfl : j = 6 := by omega
      clear hlt hj
      have c := HC.out wr S
      have q := S.at (b := bx) (o := .cells t.cells.toArray 40 (0, 0)) (by simp)
      go_wp2_with (refine wpList_loadrow_g (by rfl) 40 _ (by rfl) bx (by rfl) t.cells.toArray 40 _ q Try.underlying40 rfl (by rw [List.size_toArray, HS.out]; exact size40) ?_)
      clear c q
      refine (K1.out _ S).mono ?_
      clear S
      rintro e w1 ⟨rfl, S⟩
      have c := HC.out _ S
      have q := S.at (b := bx) (o := .cells t.cells.toArray 40 (0, 0)) (by simp)
      go_wp2_with (refine wpList_loadrow_g (by rfl) 40 _ (by rfl) bx (by rfl) t.cells.toArray 40 _ q Try.underlying40 rfl (by rw [List.size_toArray, HS.out]; exact size40) ?_)
      clear c q
      refine (K4.out _ S).mono ?_
      clear S
      rintro e w2 ⟨rfl, S⟩
      have c := HC.out _ S
      have q := S.at (b := bx) (o := .cells t.cells.toArray 40 (0, 0)) (by simp)
      go_wp2_with (refine wpList_loadrow_g (by rfl) 40 _ (by rfl) bx (by rfl) t.cells.toArray 40 _ q Try.underlying40 rfl (by rw [List.size_toArray, HS.out]; exact size40) ?_)
      clear c q
      refine (K2.out _ S).mono ?_
      clear S
      rintro e w3 ⟨rfl, S⟩
      have c := HC.out _ S
      have q := S.at (b := bx) (o := .cells t.cells.toArray 40 (0, 0)) (by simp)
      go_wp2_with (refine wpList_loadrow_g (by rfl) 40 _ (by rfl) bx (by rfl) t.cells.toArray 40 _ q Try.underlying40 rfl (by rw [List.size_toArray, HS.out]; exact size40) ?_)
      clear c q
      refine (K3.out _ S).mono ?_
      clear S
      rintro e w4 ⟨rfl, S⟩
      have c := HC.out _ S
      have q := S.at (b := bx) (o := .cells t.cells.toArray 40 (0, 0)) (by simp)
      go_wp2_with (refine wpList_loadrow_g (by rfl) 40 _ (by rfl) bx (by rfl) t.cells.toArray 40 _ q Try.underlying40 rfl (by rw [List.size_toArray, HS.out]; exact size40) ?_)
      clear c q
      refine (K5.out _ S).mono ?_
      clear S
      rintro e w5 ⟨rfl, S⟩
      have c := HC.out _ S
      have q := S.at (b := bx) (o := .cells t.cells.toArray 40 (0, 0)) (by simp)
      go_wp2_with (refine wpList_loadrow_g (by rfl) 40 _ (by rfl) bx (by rfl) t.cells.toArray 40 _ q Try.underlying40 rfl (by rw [List.size_toArray, HS.out]; exact size40) ?_)
      go_ret
      exact gives_of_eq rfl S.1
theorem right_ok (t : Tr) (ht : t.ok) (c : Int) (hs : Shape c t.s t.ts) (w : World) : Calls Try.prog 17 #[.agg t.cells.toArray, .int .i64 c] w (Gives (.bool true) w) := by
  generalize e1 : t.s = s at hs
  generalize e2 : t.ts = ts at hs
  cases hs with
  | s1 h0 h1 => exact right_1 t ht c _ h0 h1 e1 e2 w
  | s15 h0 h1 h2 => exact right_15 t ht c _ _ h0 h1 h2 e1 e2 w
  | s2 h0 h1 h2 => exact right_2 t ht c _ _ h0 h1 h2 e1 e2 w
  | s25 h0 h1 h2 h3 => exact right_25 t ht c _ _ _ h0 h1 h2 h3 e1 e2 w
  | s3 h0 h1 h2 h3 => exact right_3 t ht c _ _ _ h0 h1 h2 h3 e1 e2 w
  | s4 h0 h1 h2 h3 h4 => exact right_4 t ht c _ _ _ _ h0 h1 h2 h3 h4 e1 e2 w
end Go.Proofs.Ytnooghehmgbemaa
