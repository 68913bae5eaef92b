/- Trip: TripNone, walked. -/
import Derived.Test.YtnooghehmgbemaaB18
namespace Go.Proofs.Ytnooghehmgbemaa
open Go.RowKit
set_option linter.unusedVariables false
set_option linter.unusedSimpArgs false

def ZT : Tr := ⟨Z25.toList, 0, [0, 0, 0, 0, 0, 0]⟩
theorem zt_ok : ZT.ok := ⟨⟨rfl, fun u hu => by
  simp only [ZT, Z25, List.mem_cons, List.not_mem_nil, or_false] at hu
  rcases hu with rfl | rfl | rfl | rfl | rfl | rfl | rfl | rfl | rfl | rfl | rfl | rfl | rfl | rfl | rfl | rfl <;> exact ⟨_, rfl, by decide⟩⟩, (by decide : (Lit.int .u8 0).wf = true), rfl, (by decide : ∀ x ∈ ([0, 0, 0, 0, 0, 0] : List Int), (Lit.int .i64 x).wf = true)⟩
theorem eql_z (w : World) : (binOp .eql 40 (.agg Z40) (.agg Z40)).run Try.prog w = .ok (.bool true) w := eql_same zt_ok w
theorem zero_facts {u : World} {b : Nat} (hb : u.heap[b]? = some (.cells #[.int .i64 0, .slice none 0 0, .map none, .map none, .map none] 34 (0, 0))) : u.cell? ⟨b, 1, none⟩ = some (.slice none 0 0) ∧ u.cell? ⟨b, 2, none⟩ = some (.map none) ∧ u.cell? ⟨b, 4, none⟩ = some (.map none) := by
  refine ⟨?_, ?_, ?_⟩ <;> rw [cell_of_row u b _ _ _ _ hb] <;> rfl
set_option maxRecDepth 20000 in
set_option maxHeartbeats 8000000 in
theorem none_core (o : OpV) (ho : o.ok) (w : World) : Calls Try.prog 3 #[.agg o.cells.toArray] w (Gives (.bool true) w) := by
  have hk := ho.k
  have hd : Bs 8 (o.k.drop 8) := Bs.drop (n := 8) ho.k
  have Hk := Lib.hid hk
  have Hd := Lib.hid hd
  have HO := Lib.hid ho
  obtain ⟨kl, hkl⟩ := key_j hk
  obtain ⟨dl, hdl⟩ := key_id hd
  have K1 := Lib.hid (fun u : World => run_lookup_nil (P := Try.prog) (w := u) law25 Try.underlying31 ((zero_of_info zero40).1 u) hkl true)
  have K2 := Lib.hid (fun u : World => run_lookup_nil (P := Try.prog) (w := u) law23 Try.underlying32 ((zero_of_info zero25).1 u) hdl true)
  clear ho hk hd hkl hdl
  have S : Bk w [] w := ⟨Below.refl _ w, by simp⟩
  go_enter Try.func3, Try.ntmps3
  have S1 := (S.alloc (.cells o.cells.toArray 28)).alloc (.cells #[.int .i64 0, .slice none 0 0, .map none, .map none, .map none] 34)
  rw [World.size_alloc] at S1
  have f0 := S1.at (b := w.heap.size) (o := .cells o.cells.toArray 28) (by simp)
  obtain ⟨_, k1, k18, rk, rd⟩ := op_facts HO.out f0
  clear f0
  go_wp2_with (refine wpList_loadmid_g (by rfl) 25 _ (by rfl) w.heap.size 2 (by rfl) o.k _ rk Try.underlying25 rfl (by rw [Hk.out.1]; exact size25) ?_)
  generalize (w.alloc (.cells o.cells.toArray 28)).alloc (.cells #[.int .i64 0, .slice none 0 0, .map none, .map none, .map none] 34) = w1 at *
  clear k1 k18 rk rd S
  refine (S1.gives (assign_nil o.tick o.k Hk.out _)).mono ?_
  rintro e w2 ⟨rfl, S2⟩
  clear S1
  obtain ⟨_, k1, k18, rk, rd⟩ := op_facts HO.out (S2.at (b := w.heap.size) (o := .cells o.cells.toArray 28) (by simp))
  obtain ⟨g1, g2, g4⟩ := zero_facts (S2.at (b := w.heap.size + 1) (o := .cells #[.int .i64 0, .slice none 0 0, .map none, .map none, .map none] 34) (by simp))
  go_wp2_with (refine wpList_loadmid_g (by rfl) 25 _ (by rfl) w.heap.size 2 (by rfl) o.k _ rk Try.underlying25 rfl (by rw [Hk.out.1]; exact size25) ?_)
  clear k1 k18 rk rd g1 g2 g4
  refine (S2.gives (assign_zero _ o.tick o.k Hk.out _ (zero_facts (S2.at (b := w.heap.size + 1) (o := .cells #[.int .i64 0, .slice none 0 0, .map none, .map none, .map none] 34) (by simp))).2.1)).mono ?_
  rintro e w3 ⟨rfl, S3⟩
  clear S2
  obtain ⟨_, k1, k18, rk, rd⟩ := op_facts HO.out (S3.at (b := w.heap.size) (o := .cells o.cells.toArray 28) (by simp))
  obtain ⟨g1, g2, g4⟩ := zero_facts (S3.at (b := w.heap.size + 1) (o := .cells #[.int .i64 0, .slice none 0 0, .map none, .map none, .map none] 34) (by simp))
  go_wp2_with (refine wpList_loadmid_g (by rfl) 25 _ (by rfl) w.heap.size 2 (by rfl) o.k _ rk Try.underlying25 rfl (by rw [Hk.out.1]; exact size25) ?_)
  clear k1 k18 rk rd g1 g2 g4
  refine (S3.gives (go_nil o.tick o.s o.k Hk.out _)).mono ?_
  rintro e w4 ⟨rfl, S4⟩
  clear S3
  obtain ⟨_, k1, k18, rk, rd⟩ := op_facts HO.out (S4.at (b := w.heap.size) (o := .cells o.cells.toArray 28) (by simp))
  obtain ⟨g1, g2, g4⟩ := zero_facts (S4.at (b := w.heap.size + 1) (o := .cells #[.int .i64 0, .slice none 0 0, .map none, .map none, .map none] 34) (by simp))
  go_wp2_with (refine wpList_loadmid_g (by rfl) 25 _ (by rfl) w.heap.size 2 (by rfl) o.k _ rk Try.underlying25 rfl (by rw [Hk.out.1]; exact size25) ?_)
  clear k1 k18 rk rd g1 g2 g4
  refine (S4.gives (go_zero _ o.tick o.s o.k Hk.out _ (zero_facts (S4.at (b := w.heap.size + 1) (o := .cells #[.int .i64 0, .slice none 0 0, .map none, .map none, .map none] 34) (by simp))).2.1)).mono ?_
  rintro e w5 ⟨rfl, S5⟩
  clear S4
  obtain ⟨_, k1, k18, rk, rd⟩ := op_facts HO.out (S5.at (b := w.heap.size) (o := .cells o.cells.toArray 28) (by simp))
  obtain ⟨g1, g2, g4⟩ := zero_facts (S5.at (b := w.heap.size + 1) (o := .cells #[.int .i64 0, .slice none 0 0, .map none, .map none, .map none] 34) (by simp))
  go_wp2_with (refine wpList_loadmid_g (by rfl) 25 _ (by rfl) w.heap.size 2 (by rfl) o.k _ rk Try.underlying25 rfl (by rw [Hk.out.1]; exact size25) ?_)
  clear k1 k18 rk rd g1 g2 g4
  refine (S5.gives (get_nil o.k Hk.out _)).mono ?_
  rintro e w6 ⟨rfl, S6⟩
  clear S5
  have T6 := S6.box Z40 Z40 40
  clear S6
  obtain ⟨_, k1, k18, rk, rd⟩ := op_facts HO.out (T6.at (b := w.heap.size) (o := .cells o.cells.toArray 28) (by simp))
  obtain ⟨g1, g2, g4⟩ := zero_facts (T6.at (b := w.heap.size + 1) (o := .cells #[.int .i64 0, .slice none 0 0, .map none, .map none, .map none] 34) (by simp))
  go_wp2_with (first | (refine wpList_allocz rfl 40 (by rfl) Z40 23 zero40 ?_) | (refine wpList_storerow rfl 40 _ _ (by rfl) w6.heap.size (by rfl) Z40 Z40 (by rfl) (heap_last w6 _) size40 rfl z40o ?_) | (refine wpList_loadmid_g (by rfl) 25 _ (by rfl) w.heap.size 2 (by rfl) o.k _ rk Try.underlying25 rfl (by rw [Hk.out.1]; exact size25) ?_))
  generalize (w6.alloc (.cells Z40 40)).setRow w6.heap.size Z40 = u6 at *
  generalize w6.heap.size = b6 at *
  have S6 := T6
  clear T6
  clear k1 k18 rk rd g1 g2 g4
  refine (S6.gives (get_at _ (.map none) o.k Hk.out Z40 false _ ((zero_facts (S6.at (b := w.heap.size + 1) (o := .cells #[.int .i64 0, .slice none 0 0, .map none, .map none, .map none] 34) (by simp))).2.1) z40s z40o (fun u _ => by simpa using K1.out u))).mono ?_
  rintro e w7 ⟨rfl, S7⟩
  clear S6
  have T7 := S7.box Z40 Z40 40
  clear S7
  obtain ⟨_, k1, k18, rk, rd⟩ := op_facts HO.out (T7.at (b := w.heap.size) (o := .cells o.cells.toArray 28) (by simp))
  obtain ⟨g1, g2, g4⟩ := zero_facts (T7.at (b := w.heap.size + 1) (o := .cells #[.int .i64 0, .slice none 0 0, .map none, .map none, .map none] 34) (by simp))
  go_wp2_with (first | (refine wpList_allocz rfl 40 (by rfl) Z40 23 zero40 ?_) | (refine wpList_storerow rfl 40 _ _ (by rfl) w7.heap.size (by rfl) Z40 Z40 (by rfl) (heap_last w7 _) size40 rfl z40o ?_) | (refine wpList_loadmid_g (by rfl) 23 _ (by rfl) w.heap.size 10 (by rfl) (o.k.drop 8) _ rd Try.underlying23 rfl (by rw [Hd.out.1]; exact size23) ?_))
  generalize (w7.alloc (.cells Z40 40)).setRow w7.heap.size Z40 = u7 at *
  generalize w7.heap.size = b7 at *
  have S7 := T7
  clear T7
  clear k1 k18 rk rd g1 g2 g4
  refine (S7.gives (of_nil (o.k.drop 8) Hd.out _)).mono ?_
  rintro e w8 ⟨rfl, S8⟩
  clear S7
  have T8 := S8.box Z40 Z40 40
  clear S8
  obtain ⟨_, k1, k18, rk, rd⟩ := op_facts HO.out (T8.at (b := w.heap.size) (o := .cells o.cells.toArray 28) (by simp))
  obtain ⟨g1, g2, g4⟩ := zero_facts (T8.at (b := w.heap.size + 1) (o := .cells #[.int .i64 0, .slice none 0 0, .map none, .map none, .map none] 34) (by simp))
  go_wp2_with (first | (refine wpList_allocz rfl 40 (by rfl) Z40 23 zero40 ?_) | (refine wpList_storerow rfl 40 _ _ (by rfl) w8.heap.size (by rfl) Z40 Z40 (by rfl) (heap_last w8 _) size40 rfl z40o ?_) | (refine wpList_loadmid_g (by rfl) 23 _ (by rfl) w.heap.size 10 (by rfl) (o.k.drop 8) _ rd Try.underlying23 rfl (by rw [Hd.out.1]; exact size23) ?_))
  generalize (w8.alloc (.cells Z40 40)).setRow w8.heap.size Z40 = u8 at *
  generalize w8.heap.size = b8 at *
  have S8 := T8
  clear T8
  clear k1 k18 rk rd g1 g2 g4
  refine (S8.gives (of_miss _ (.map none) (o.k.drop 8) Hd.out _ ((zero_facts (S8.at (b := w.heap.size + 1) (o := .cells #[.int .i64 0, .slice none 0 0, .map none, .map none, .map none] 34) (by simp))).2.2) (fun u _ => by simpa using K2.out u))).mono ?_
  rintro e w9 ⟨rfl, S9⟩
  clear S8
  have T9 := S9.box Z40 Z40 40
  clear S9
  obtain ⟨_, k1, k18, rk, rd⟩ := op_facts HO.out (T9.at (b := w.heap.size) (o := .cells o.cells.toArray 28) (by simp))
  obtain ⟨g1, g2, g4⟩ := zero_facts (T9.at (b := w.heap.size + 1) (o := .cells #[.int .i64 0, .slice none 0 0, .map none, .map none, .map none] 34) (by simp))
  have qb6 := T9.at (b := b6) (o := .cells Z40 40) (by simp)
  have qb7 := T9.at (b := b7) (o := .cells Z40 40) (by simp)
  have qb8 := T9.at (b := b8) (o := .cells Z40 40) (by simp)
  have qb9 := T9.at (b := w9.heap.size) (o := .cells Z40 40) (by simp)
  have e40 := eql_z
  have E40 := Lib.hid e40
  clear e40
  go_wp2_with (first | (refine wpList_allocz rfl 40 (by rfl) Z40 23 zero40 ?_) | (refine wpList_storerow rfl 40 _ _ (by rfl) w9.heap.size (by rfl) Z40 Z40 (by rfl) (heap_last w9 _) size40 rfl z40o ?_) | (refine wpList_loadrow_g (by rfl) 40 _ (by rfl) b6 (by rfl) Z40 40 _ qb6 Try.underlying40 rfl size40 ?_) | (refine wpList_loadrow_g (by rfl) 40 _ (by rfl) b7 (by rfl) Z40 40 _ qb7 Try.underlying40 rfl size40 ?_) | (refine wpList_loadrow_g (by rfl) 40 _ (by rfl) b8 (by rfl) Z40 40 _ qb8 Try.underlying40 rfl size40 ?_) | (refine wpList_loadrow_g (by rfl) 40 _ (by rfl) w9.heap.size (by rfl) Z40 40 _ qb9 Try.underlying40 rfl size40 ?_) | (refine wpList_build_g (by rfl) 40 _ (by rfl) (.agg Z40) build40 ?_) | (refine wpList_eq_g (by rfl) false 40 _ _ _ (by rfl) Z40 Z40 (.bool true) (by rfl) (by rfl) guard40 (E40.out _) ?_))
  generalize (w9.alloc (.cells Z40 40)).setRow w9.heap.size Z40 = u9 at *
  have S9 := T9
  clear T9 qb6 qb7 qb8 qb9
  clear k1 k18 rk rd g1 g2 g4
  refine (S9.gives (list_nil _)).mono ?_
  rintro e w10 ⟨rfl, S10⟩
  clear S9
  go_wp2_with fail
  refine (S10.gives (list_zero _ _ ((zero_facts (S10.at (b := w.heap.size + 1) (o := .cells #[.int .i64 0, .slice none 0 0, .map none, .map none, .map none] 34) (by simp))).1))).mono ?_
  rintro e w11 ⟨rfl, S11⟩
  clear S10
  go_wp2_with fail
  refine (S11.gives (alive_ok _)).mono ?_
  rintro e w12 ⟨rfl, S12⟩
  clear S11
  go_wp2_with fail
  go_ret
  exact gives_of_eq rfl S12.1
end Go.Proofs.Ytnooghehmgbemaa
