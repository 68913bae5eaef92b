/- Slab: the law's Names, walked. -/
import Derived.Test.YtpnegofmebfcgaaLv
import Derived.Test.YtpnegofmebfcgaaPb
import Derived.Test.YtpnegofmebfcgaaDb
import Derived.Test.YtpnegofmebfcgaaFb
import Derived.Test.YtpnegofmebfcgaaNb
namespace Go.Proofs.Ytpnegofmebfcgaa
open Go.RowKit
attribute [local go_sem] BW.cell BW.frozen
set_option linter.unusedVariables false
set_option linter.unusedSimpArgs false

/-- the slab of 4096 slots when k are filled -/
def fill (k : Nat) : List SL := (List.range 4096).map fun j => if j < k then ⟨j, 1, true, .bool true⟩ else ⟨0, 0, false, .bool false⟩
theorem fill_len (k : Nat) : (fill k).length = 4096 := by unfold fill; rw [List.length_map, List.length_range]
theorem fill_at (k j : Nat) (hj : j < 4096) : (fill k)[j]? = some (if j < k then ⟨j, 1, true, .bool true⟩ else ⟨0, 0, false, .bool false⟩) := by
  unfold fill; rw [List.getElem?_map, List.getElem?_range hj]; rfl
theorem fill_zero : fill 0 = List.replicate 4096 ⟨0, 0, false, .bool false⟩ := by
  apply List.ext_getElem?
  intro j
  by_cases hj : j < 4096
  · rw [fill_at 0 j hj, if_neg (Nat.not_lt_zero j), List.getElem?_replicate, if_pos hj]
  · rw [List.getElem?_eq_none (by rw [fill_len]; omega), List.getElem?_eq_none (by rw [List.length_replicate]; omega)]
theorem fill_free (k : Nat) (hk : k < 4096) : (fill k)[k]? = some ⟨0, 0, false, .bool false⟩ := by rw [fill_at k k hk, if_neg (Nat.lt_irrefl k)]
theorem fill_full (k j : Nat) (s : SL) (hj : j < k) (h : (fill k)[j]? = some s) : s.full = true := by
  by_cases hk : j < 4096
  · rw [fill_at k j hk, if_pos hj] at h; cases h; rfl
  · rw [List.getElem?_eq_none (by rw [fill_len]; omega)] at h; cases h
theorem fill_next (k : Nat) (hk : k < 4096) : (fill k).set k ⟨k, 1, true, .bool true⟩ = fill (k + 1) := by
  apply List.ext_getElem?
  intro j
  by_cases hj : j < 4096
  · rw [List.getElem?_set, fill_at _ j hj, fill_at _ j hj, fill_len]
    by_cases e : k = j
    · subst e; rw [if_pos rfl, if_pos hj, if_pos (by omega)]
    · rw [if_neg e]
      by_cases h : j < k
      · rw [if_pos h, if_pos (by omega)]
      · rw [if_neg h, if_neg (by omega)]
  · rw [List.getElem?_eq_none (by rw [List.length_set, fill_len]; omega), List.getElem?_eq_none (by rw [fill_len]; omega)]
theorem put_fill (ps g k : Nat) (w : World) (h : SlabAt 105 w ps g (fill k)) (hk : k < 4096) :
    Calls Try.prog 17 #[.pointer (some ⟨ps, 0, none⟩), .bool true] w (Turns 105 ps g (.tuple #[.agg #[.int .i64 (k : Int), .int .i64 1], .int .i64 0]) (fill (k + 1)) w) := by
  refine (putb_hit ps g k _ _ true w h (fill_free k hk) rfl (fun j s hj hs => fill_full k j s hj hs) (by rw [fill_len]; decide) (by decide) (by decide)).mono ?_
  rintro e w' ⟨he, hg, hS⟩
  have e1 : (fill k).set k ⟨(k : Int), (0 : Int) + 1, true, .bool true⟩ = fill (k + 1) := fill_next k hk
  exact ⟨he, hg, e1 ▸ hS⟩


def fillD : List SL := (fill 4096).set 77 ⟨77, 1, false, .bool false⟩
def fillE : List SL := fillD.set 77 ⟨77, 2, true, .bool false⟩
theorem fill_77 : (fill 4096)[77]? = some ⟨77, 1, true, .bool true⟩ := by rw [fill_at 4096 77 (by decide), if_pos (by decide)]; rfl
theorem fillD_len : fillD.length = 4096 := by unfold fillD; rw [List.length_set, fill_len]
theorem fillD_77 : fillD[77]? = some ⟨77, 1, false, .bool false⟩ := by unfold fillD; rw [List.getElem?_set, if_pos rfl, fill_len, if_pos (by decide)]
theorem nm_full (ps g : Nat) (w : World) (h : SlabAt 105 w ps g (fill 4096)) :
    Calls Try.prog 17 #[.pointer (some ⟨ps, 0, none⟩), .bool true] w (Turns 105 ps g (.tuple #[.agg #[.int .i64 0, .int .i64 0], .int .i64 132]) (fill 4096) w) := by
  refine Calls.turns h (putb_full ps g _ true w h ?_ (by rw [fill_len]; decide) (by rw [fill_len]; decide))
  intro j s hs
  by_cases hj : j < 4096
  · exact fill_full 4096 j s hj hs
  · rw [List.getElem?_eq_none (by rw [fill_len]; omega)] at hs; cases hs
theorem nm_drop (ps g : Nat) (w : World) (h : SlabAt 105 w ps g (fill 4096)) :
    Calls Try.prog 18 #[.pointer (some ⟨ps, 0, none⟩), .agg #[.int .i64 77, .int .i64 1]] w (Turns 105 ps g (.tuple #[.bool true, .bool true]) fillD w) :=
  dropb_hit ps g 77 _ ⟨77, 1, true, .bool true⟩ 77 1 w h fill_77 (fun u hu => findb_hit ps g _ 77 ⟨77, 1, true, .bool true⟩ 1 u hu fill_77 rfl rfl rfl)
theorem nm_put (ps g : Nat) (w : World) (h : SlabAt 105 w ps g fillD) :
    Calls Try.prog 17 #[.pointer (some ⟨ps, 0, none⟩), .bool false] w (Turns 105 ps g (.tuple #[.agg #[.int .i64 77, .int .i64 2], .int .i64 0]) fillE w) := by
  refine (putb_hit ps g 77 _ _ false w h fillD_77 rfl ?_ (by rw [fillD_len]; decide) (by decide) (by decide)).mono fun e w' hh => hh
  intro j s hj hs
  unfold fillD at hs
  rw [List.getElem?_set, if_neg (by omega)] at hs
  exact fill_full 4096 j s (by omega) hs
theorem fnil_b : ∀ (w : World) (a : Addr), (binOp BinOp.neq 50 (.func (.func 43) #[] #[.pointer (some a)]) .nilFunc).run Try.prog w = .ok (.bool true) w := fun _ _ => by kernel_rfl
theorem allb_nil (w : World) : Calls Try.prog 19 #[.pointer none] w (Gives (.func (.func 43) #[] #[.pointer (some ⟨w.heap.size, 0, none⟩)]) w) := by
  go_enter Try.func19, Try.ntmps19
  go_wp2
  go_ret
  exact gives_of_eq rfl ((Below.refl _ w).alloc (Nat.le_refl _) _)

set_option maxRecDepth 50000 in
set_option maxHeartbeats 8000000 in
theorem names_ok (w : World) : Calls Try.prog 4 #[] w (Gives (.bool true) w) := by
  have F0 := Lib.hid fill_free; have F1 := Lib.hid fill_next; have F2 := Lib.hid fill_zero
  go_enter Try.func4, Try.ntmps4
  go_wp2_with fail
  refine (newb_lo 0 w (by decide)).mono ?_
  rintro e W ⟨rfl, rfl⟩
  go_wp2_with fail
  refine (newb_hi 4097 w (by decide) (by decide)).mono ?_
  rintro e W ⟨rfl, rfl⟩
  go_wp2_with fail
  refine (newb_lo (-9223372036854775808) w (by decide)).mono ?_
  rintro e W ⟨rfl, rfl⟩
  go_wp2_with fail
  refine (newb_ok 4096 w (by decide) (by decide)).mono ?_
  rintro e W0 ⟨rfl, bW0, hS0⟩
  rw [← fill_zero] at hS0
  have KP := Lib.hid put_fill
  go_wp2_with fail
  go_loopw [9] (fun v wr => ∃ k : Nat, k ≤ 4096 ∧ v = .int .i64 k ∧ Below w.heap.size w wr ∧ SlabAt 105 wr (w.heap.size + 1) w.heap.size (fill k)) (fun v _ => 4096 - (intOf v).toNat)
  case atStart => exact ⟨0, by decide, rfl, bW0, hS0⟩
  case round =>
    obtain ⟨k, hk, rfl, bW10, hS10⟩ := hrel
    by_cases hlt : k < 4096
    · go_wp2_with fail
      refine (KP.out _ _ k _ hS10 hlt).mono ?_
      rintro e W1 ⟨rfl, hg1, hS1⟩
      have bW1 : Below w.heap.size w W1 := bW10.trans (grown_below' hg1 (Nat.le_refl _) bW10.size)
      go_wp2_with fail
      go_roundw
      case rel => exact ⟨k + 1, by omega, by go_num, bW1.alloc bW1.size _, hS1.alloc _⟩
      case measure => simp [intOf]; omega
    · obtain rfl : k = 4096 := by omega
      have hgb : w.heap.size ≤ w.heap.size := Nat.le_refl _
      go_wp2_with fail
      refine ((nm_full (w.heap.size + 1) w.heap.size _ hS10)).mono ?_
      rintro e W11 ⟨rfl, hg11, hS11⟩
      have sz11 := hg11.size
      have bW11 : Below w.heap.size w W11 := bW10.trans (grown_below' hg11 hgb bW10.size)
      clear sz11 hg11 bW10 hS10
      clear wr
      go_wp2_with fail
      refine ((nm_drop (w.heap.size + 1) w.heap.size _ (hS11.alloc _))).mono ?_
      rintro e W12 ⟨rfl, hg12, hS12⟩
      have sz12 := hg12.size
      simp at sz12
      have gl12 := hS11.gl
      have q12_0_0 : W12.cell? ⟨W11.heap.size, 0, none⟩ = some (.int .i64 0) := by rw [hg12.cell_far _ (by simp) (by intro h; injection h with h; simp at h; omega)]; simp [go_sem]
      have q12_0_1 : W12.cell? ⟨W11.heap.size, 1, none⟩ = some (.int .i64 0) := by rw [hg12.cell_far _ (by simp) (by intro h; injection h with h; simp at h; omega)]; simp [go_sem]
      have l12_0 : W11.heap.size < W12.heap.size := by omega
      have n12_0 : W11.heap.size ≠ w.heap.size := by omega
      have bW12 : Below w.heap.size w W12 := (bW11.alloc bW11.size _).trans (grown_below' hg12 hgb (Nat.le_trans bW11.size (by simp)))
      clear sz12 hg12 gl12 bW11 hS11
      generalize W11.heap.size = b12 at *
      clear W11
      go_wp2_with fail
      refine ((nm_put (w.heap.size + 1) w.heap.size _ hS12)).mono ?_
      rintro e W13 ⟨rfl, hg13, hS13⟩
      have q13_0_0 : W13.cell? ⟨b12, 0, none⟩ = some (.int .i64 0) := by rw [hg13.cell_far _ l12_0 (by intro h; cases h; exact n12_0 rfl)]; exact q12_0_0
      have q13_0_1 : W13.cell? ⟨b12, 1, none⟩ = some (.int .i64 0) := by rw [hg13.cell_far _ l12_0 (by intro h; cases h; exact n12_0 rfl)]; exact q12_0_1
      have sz13 := hg13.size
      have l13_0 : b12 < W13.heap.size := by omega
      have n13_0 : b12 ≠ w.heap.size := n12_0
      have bW13 : Below w.heap.size w W13 := bW12.trans (grown_below' hg13 hgb bW12.size)
      clear sz13 hg13 q12_0_0 q12_0_1 l12_0 n12_0 bW12 hS12
      clear W12
      go_wp2_with fail
      refine ((Calls.turns (hS13.alloc _) (putb_nil true _))).mono ?_
      rintro e W14 ⟨rfl, hg14, hS14⟩
      have q14_0_0 : W14.cell? ⟨b12, 0, none⟩ = some (.int .i64 0) := by rw [hg14.cell_far _ (by simp; omega) (by intro h; cases h; exact n13_0 rfl), World.cell?_alloc_lt _ _ _ (by simpa using l13_0)]; exact q13_0_0
      have q14_0_1 : W14.cell? ⟨b12, 1, none⟩ = some (.int .i64 0) := by rw [hg14.cell_far _ (by simp; omega) (by intro h; cases h; exact n13_0 rfl), World.cell?_alloc_lt _ _ _ (by simpa using l13_0)]; exact q13_0_1
      have sz14 := hg14.size
      simp at sz14
      have gl14 := hS13.gl
      have q14_1_0 : W14.cell? ⟨W13.heap.size, 0, none⟩ = some (.int .i64 77) := by rw [hg14.cell_far _ (by simp) (by intro h; injection h with h; simp at h; omega)]; simp [go_sem]
      have q14_1_1 : W14.cell? ⟨W13.heap.size, 1, none⟩ = some (.int .i64 2) := by rw [hg14.cell_far _ (by simp) (by intro h; injection h with h; simp at h; omega)]; simp [go_sem]
      have l14_0 : b12 < W14.heap.size := by omega
      have n14_0 : b12 ≠ w.heap.size := n13_0
      have l14_1 : W13.heap.size < W14.heap.size := by omega
      have n14_1 : W13.heap.size ≠ w.heap.size := by omega
      have bW14 : Below w.heap.size w W14 := (bW13.alloc bW13.size _).trans (grown_below' hg14 hgb (Nat.le_trans bW13.size (by simp)))
      clear sz14 hg14 gl14 q13_0_0 q13_0_1 l13_0 n13_0 bW13 hS13
      generalize W13.heap.size = b14 at *
      clear W13
      go_wp2_with fail
      refine ((Calls.turns (hS14.alloc _) (lives_ok _))).mono ?_
      rintro e W15 ⟨rfl, hg15, hS15⟩
      have q15_0_0 : W15.cell? ⟨b12, 0, none⟩ = some (.int .i64 0) := by rw [hg15.cell_far _ (by simp; omega) (by intro h; cases h; exact n14_0 rfl), World.cell?_alloc_lt _ _ _ (by simpa using l14_0)]; exact q14_0_0
      have q15_0_1 : W15.cell? ⟨b12, 1, none⟩ = some (.int .i64 0) := by rw [hg15.cell_far _ (by simp; omega) (by intro h; cases h; exact n14_0 rfl), World.cell?_alloc_lt _ _ _ (by simpa using l14_0)]; exact q14_0_1
      have q15_1_0 : W15.cell? ⟨b14, 0, none⟩ = some (.int .i64 77) := by rw [hg15.cell_far _ (by simp; omega) (by intro h; cases h; exact n14_1 rfl), World.cell?_alloc_lt _ _ _ (by simpa using l14_1)]; exact q14_1_0
      have q15_1_1 : W15.cell? ⟨b14, 1, none⟩ = some (.int .i64 2) := by rw [hg15.cell_far _ (by simp; omega) (by intro h; cases h; exact n14_1 rfl), World.cell?_alloc_lt _ _ _ (by simpa using l14_1)]; exact q14_1_1
      have sz15 := hg15.size
      simp at sz15
      have gl15 := hS14.gl
      have q15_2_0 : W15.cell? ⟨W14.heap.size, 0, none⟩ = some (.int .i64 0) := by rw [hg15.cell_far _ (by simp) (by intro h; injection h with h; simp at h; omega)]; simp [go_sem]
      have q15_2_1 : W15.cell? ⟨W14.heap.size, 1, none⟩ = some (.int .i64 0) := by rw [hg15.cell_far _ (by simp) (by intro h; injection h with h; simp at h; omega)]; simp [go_sem]
      have l15_0 : b12 < W15.heap.size := by omega
      have n15_0 : b12 ≠ w.heap.size := n14_0
      have l15_1 : b14 < W15.heap.size := by omega
      have n15_1 : b14 ≠ w.heap.size := n14_1
      have l15_2 : W14.heap.size < W15.heap.size := by omega
      have n15_2 : W14.heap.size ≠ w.heap.size := by omega
      have bW15 : Below w.heap.size w W15 := (bW14.alloc bW14.size _).trans (grown_below' hg15 hgb (Nat.le_trans bW14.size (by simp)))
      clear sz15 hg15 gl15 q14_0_0 q14_0_1 q14_1_0 q14_1_1 l14_0 l14_1 n14_0 n14_1 bW14 hS14
      generalize W14.heap.size = b15 at *
      clear W14
      go_wp2_with fail
      refine (Calls.turns hS15 (allb_nil _)).mono ?_
      have hnil := fnil_b
      rintro e W16 ⟨rfl, hg16, hS16⟩
      go_wp2
      go_ret
      exact gives_of_eq rfl (bW15.trans (grown_below' hg16 hgb bW15.size))
end Go.Proofs.Ytpnegofmebfcgaa
