/- Contracts of plane, 5: steps of the program. -/
import Derived.Test.YtilimgjmiijkiaaA4
import Derived.Lib.Hide
namespace Go.Proofs.Ytilimgjmiijkiaa
open Go.RowKit
attribute [local go_sem] BW.cell BW.frozen

theorem i16_eq (n : Int) : IntKind.i16.wrap n = (n + 32768) % 65536 - 32768 := by
  simp [IntKind.wrap, IntKind.bits, IntKind.signed]; omega
theorem i16_sub (x k : Int) (b1 : x - k ≤ 32767) (b2 : -32768 ≤ x - k) : IntKind.i16.wrap (x + IntKind.i16.wrap (-k)) = x - k := by
  rw [i16_eq, i16_eq]; omega
theorem i16_add (x k : Int) (b1 : x + k ≤ 32767) (b2 : -32768 ≤ x + k) : IntKind.i16.wrap (x + IntKind.i16.wrap k) = x + k := by
  rw [i16_eq, i16_eq]; omega

theorem tow_k (x t n k : Int) (hk : (apart x t < n ∧ k = apart x t) ∨ (¬ apart x t < n ∧ k = n)) : tow x t n = if t < x then x - k else x + k := by
  unfold tow
  rcases hk with ⟨a, b⟩ | ⟨a, b⟩
  · rw [if_pos a, b]
  · rw [if_neg a, b]

set_option maxHeartbeats 1000000 in
theorem go1_any (bx ox bn : Nat) (x t n k : Int) (w : World) (h1 : -32768 ≤ x) (h2 : x ≤ 32767) (h3 : -32768 ≤ t) (h4 : t ≤ 32767) (h5 : 0 ≤ n) (h6 : n ≤ 200000)
    (hx : w.cell? ⟨bx, ox, none⟩ = some (.int .i16 x)) (hn : w.cell? ⟨bn, 0, none⟩ = some (.int .i64 n)) (fx : w.frozen? ⟨bx, ox, none⟩ = false) (fn : w.frozen? ⟨bn, 0, none⟩ = false)
    (lx : bx < w.heap.size) (ln : bn < w.heap.size) (hne : bx ≠ bn) (hk : (apart x t < n ∧ k = apart x t) ∨ (¬ apart x t < n ∧ k = n)) :
    Calls Try.prog 51 #[.pointer (some ⟨bx, ox, none⟩), .int .i16 t, .pointer (some ⟨bn, 0, none⟩)] w fun e w' => e = .returned (.tuple #[]) ∧
      ∃ y : BW w.heap.size w, w' = (y.i.setCell ⟨bn, 0, none⟩ (.int .i64 (n - k))).setCell ⟨bx, ox, none⟩ (.int .i16 (tow x t n)) := by
  obtain ⟨ha1, ha2⟩ := apart_bd x t h1 h2 h3 h4
  have hap : (t < x → apart x t = x - t) ∧ (¬ t < x → apart x t = t - x) := by unfold apart; constructor <;> intro h <;> split <;> omega
  by_cases ht : t < x
  · have H := hap.1 ht
    rw [tow_k x t n k hk, if_pos ht]
    have b1 : x - k ≤ 32767 := by rcases hk with ⟨a, b⟩ | ⟨a, b⟩ <;> omega
    have b2 : -32768 ≤ x - k := by rcases hk with ⟨a, b⟩ | ⟨a, b⟩ <;> omega
    clear H hap
    rcases hk with ⟨a, rfl⟩ | ⟨a, rfl⟩
    all_goals
      go_enter Try.func51, Try.ntmps51
      refine wp_seq_k ?_
      intro _ _
      refine wp_region_bw w.heap.size w (Below.refl _ _) (by kernel_rfl) (by kernel_rfl) ?_
      repeat (go_big_quiet_step ((go_at_call 49; refine Calls.bw_same (apart_any _ _ _ (by assumption) (by assumption) (by assumption) (by assumption)))))
      refine wpQuiet_nil ?_
      intro y
      go_wp2
      go_end0
      refine ⟨rfl, y, ?_⟩
      first
        | rw [i16_sub _ _ b1 b2]
        | rw [i16_add _ _ b1 b2]
      try rw [Int.sub_self]
  · have H := hap.2 ht
    rw [tow_k x t n k hk, if_neg ht]
    have b1 : x + k ≤ 32767 := by rcases hk with ⟨a, b⟩ | ⟨a, b⟩ <;> omega
    have b2 : -32768 ≤ x + k := by rcases hk with ⟨a, b⟩ | ⟨a, b⟩ <;> omega
    clear H hap
    rcases hk with ⟨a, rfl⟩ | ⟨a, rfl⟩
    all_goals
      go_enter Try.func51, Try.ntmps51
      refine wp_seq_k ?_
      intro _ _
      refine wp_region_bw w.heap.size w (Below.refl _ _) (by kernel_rfl) (by kernel_rfl) ?_
      repeat (go_big_quiet_step ((go_at_call 49; refine Calls.bw_same (apart_any _ _ _ (by assumption) (by assumption) (by assumption) (by assumption)))))
      refine wpQuiet_nil ?_
      intro y
      go_wp2
      go_end0
      refine ⟨rfl, y, ?_⟩
      first
        | rw [i16_sub _ _ b1 b2]
        | rw [i16_add _ _ b1 b2]
      try rw [Int.sub_self]

def stepX (fx fy tx ty n : Int) : Int := if n ≤ 0 then fx else if apart fx tx + apart fy ty ≤ n then tx else tow fx tx n
def stepY (fx fy tx ty n : Int) : Int := if n ≤ 0 then fy else if apart fx tx + apart fy ty ≤ n then ty else tow fy ty (n - if apart fx tx < n then apart fx tx else n)

set_option maxHeartbeats 1000000 in
theorem step_any (fx fy tx ty n : Int) (w : World) (h1 : -32768 ≤ fx) (h2 : fx ≤ 32767) (h3 : -32768 ≤ fy) (h4 : fy ≤ 32767) (h5 : -32768 ≤ tx) (h6 : tx ≤ 32767) (h7 : -32768 ≤ ty) (h8 : ty ≤ 32767) :
    Calls Try.prog 24 #[.agg #[.int .i16 fx, .int .i16 fy], .agg #[.int .i16 tx, .int .i16 ty], .int .i64 n] w (Gives (.agg #[.int .i16 (stepX fx fy tx ty n), .int .i16 (stepY fx fy tx ty n)]) w) := by
  by_cases h9 : n ≤ 0
  · go_enter Try.func24, Try.ntmps24
    go_wp2
    refine bodyPost_ret (v := .agg #[.int .i16 fx, .int .i16 fy]) (by simp [results, Try.results24, go_sem]) rfl (gives_of_eq ?_ ?_)
    · unfold stepX stepY; rw [if_pos h9, if_pos h9]
    · exact ((((Below.refl _ w).alloc (Nat.le_refl _) _).alloc (by simp) _).alloc (by simp <;> omega) _).alloc (by simp <;> omega) _
  · obtain ⟨ha1, ha2⟩ := apart_bd fx tx h1 h2 h5 h6
    obtain ⟨hb1, hb2⟩ := apart_bd fy ty h3 h4 h7 h8
    by_cases h10 : apart fx tx + apart fy ty ≤ n
    · go_enter Try.func24, Try.ntmps24
      go_wp2
      refine wp_region_bw (w.heap.size + 4) _ (Below.refl _ _) (by kernel_rfl) (by kernel_rfl) ?_
      repeat (go_big_quiet_step ((go_at_call 21; refine Calls.bw_of (by simp) (dist_any _ _ _ _ _ (by assumption) (by assumption) (by assumption) (by assumption) (by assumption) (by assumption) (by assumption) (by assumption)))))
      refine wpQuiet_nil ?_
      intro y
      go_wp2
      refine bodyPost_ret (v := .agg #[.int .i16 tx, .int .i16 ty]) (by simp [results, Try.results24, go_sem]) rfl (gives_of_eq ?_ ?_)
      · have h0 : ¬ n ≤ 0 := by omega
        unfold stepX stepY; simp only [if_neg h0, if_pos h10]
      · exact ((((((Below.refl _ w).alloc (Nat.le_refl _) _).alloc (by simp) _).alloc (by simp <;> omega) _).alloc (by simp <;> omega) _).trans (y.h.mono (by simp <;> omega))).setCell (p := ⟨w.heap.size + 1 + 1 + 1, 0, none⟩) (by simp <;> omega) _ |>.setCell (p := ⟨w.heap.size + 1 + 1 + 1, 1, none⟩) (by simp <;> omega) _
    · go_enter Try.func24, Try.ntmps24
      go_wp2
      refine wp_region_bw (w.heap.size + 4) _ (Below.refl _ _) (by kernel_rfl) (by kernel_rfl) ?_
      repeat (go_big_quiet_step ((go_at_call 21; refine Calls.bw_of (by simp) (dist_any _ _ _ _ _ (by assumption) (by assumption) (by assumption) (by assumption) (by assumption) (by assumption) (by assumption) (by assumption)))))
      refine wpQuiet_nil ?_
      intro y
      have hys : w.heap.size + 4 ≤ y.i.heap.size := by have := y.size; simp at this; omega
      have hyb : Below w.heap.size w y.i := (((((Below.refl _ w).alloc (Nat.le_refl _) _).alloc (by simp) _).alloc (by simp <;> omega) _).alloc (by simp <;> omega) _).trans (y.h.mono (by simp <;> omega))
      have e0 : y.i.cell? ⟨w.heap.size, 0, none⟩ = some (.int .i16 fx) := by rw [y.cell (by simp)]; simp [go_sem]
      have e1 : y.i.cell? ⟨w.heap.size, 1, none⟩ = some (.int .i16 fy) := by rw [y.cell (by simp)]; simp [go_sem]
      have e2 : y.i.cell? ⟨w.heap.size + 1, 0, none⟩ = some (.int .i16 tx) := by rw [y.cell (by simp)]; simp [go_sem]
      have e3 : y.i.cell? ⟨w.heap.size + 1, 1, none⟩ = some (.int .i16 ty) := by rw [y.cell (by simp)]; simp [go_sem]
      have e4 : y.i.cell? ⟨w.heap.size + 1 + 1, 0, none⟩ = some (.int .i64 n) := by rw [y.cell (by simp <;> omega)]; simp [go_sem]
      have e5 : y.i.cell? ⟨w.heap.size + 1 + 1 + 1, 0, none⟩ = some (.int .i16 0) := by rw [y.cell (by simp <;> omega)]; simp [go_sem]
      have e6 : y.i.cell? ⟨w.heap.size + 1 + 1 + 1, 1, none⟩ = some (.int .i16 0) := by rw [y.cell (by simp <;> omega)]; simp [go_sem]
      have g0 : ∀ o, y.i.frozen? ⟨w.heap.size, o, none⟩ = false := fun o => by rw [y.frozen (by simp)]; simp [go_sem]
      have g4 : y.i.frozen? ⟨w.heap.size + 1 + 1, 0, none⟩ = false := by rw [y.frozen (by simp <;> omega)]; simp [go_sem]
      have g5 : ∀ o, y.i.frozen? ⟨w.heap.size + 1 + 1 + 1, o, none⟩ = false := fun o => by rw [y.frozen (by simp <;> omega)]; simp [go_sem]
      generalize y.i = Y at *
      clear y
      obtain ⟨k, hk⟩ : ∃ k, (apart fx tx < n ∧ k = apart fx tx) ∨ (¬ apart fx tx < n ∧ k = n) := by
        by_cases hh : apart fx tx < n
        · exact ⟨_, .inl ⟨hh, rfl⟩⟩
        · exact ⟨_, .inr ⟨hh, rfl⟩⟩
      have hkb : 0 ≤ n - k ∧ n - k ≤ 200000 := by rcases hk with ⟨a, b⟩ | ⟨a, b⟩ <;> omega
      have HK := Lib.hid hk
      clear hk
      go_wp2_with fail
      refine (go1_any w.heap.size 0 (w.heap.size + 1 + 1) fx tx n k Y h1 h2 h5 h6 (by omega) (by omega) e0 e4 (g0 0) g4 (by omega) (by omega) (by omega) (by have := HK.out; omega)).mono ?_
      rintro e w' ⟨rfl, z, rfl⟩
      obtain ⟨W2, hW2⟩ : ∃ W2, (z.i.setCell ⟨w.heap.size + 1 + 1, 0, none⟩ (.int .i64 (n - k))).setCell ⟨w.heap.size, 0, none⟩ (.int .i16 (tow fx tx n)) = W2 := ⟨_, rfl⟩
      rw [hW2]
      have zW2 : w.heap.size + 4 ≤ W2.heap.size := by rw [← hW2]; have := z.size; simp [World.setCell]; omega
      have bW2 : Below w.heap.size w W2 := by rw [← hW2]; exact ((hyb.trans (z.h.mono hyb.size)).setCell (p := ⟨w.heap.size + 1 + 1, 0, none⟩) (by simp <;> omega) _).setCell (p := ⟨w.heap.size, 0, none⟩) (by simp) _
      have ae0 : W2.cell? ⟨w.heap.size, 0, none⟩ = some (.int .i16 (tow fx tx n)) := by rw [← hW2]; exact World.cell?_setCell_same' _ _ _ (by rw [World.cell?_setCell_other _ _ _ _ (by simp <;> omega), z.cell (by simp <;> omega), e0]; rfl)
      have ae1 : W2.cell? ⟨w.heap.size, 1, none⟩ = some (.int .i16 fy) := by rw [← hW2, World.cell?_setCell_other _ _ _ _ (by simp <;> omega), World.cell?_setCell_other _ _ _ _ (by simp <;> omega), z.cell (by simp <;> omega)]; exact e1
      have ae3 : W2.cell? ⟨w.heap.size + 1, 1, none⟩ = some (.int .i16 ty) := by rw [← hW2, World.cell?_setCell_other _ _ _ _ (by simp <;> omega), World.cell?_setCell_other _ _ _ _ (by simp <;> omega), z.cell (by simp <;> omega)]; exact e3
      have ae4 : W2.cell? ⟨w.heap.size + 1 + 1, 0, none⟩ = some (.int .i64 (n - k)) := by rw [← hW2, World.cell?_setCell_other _ _ _ _ (by simp <;> omega)]; exact World.cell?_setCell_same' _ _ _ (by rw [z.cell (by simp <;> omega), e4]; rfl)
      have ae5 : W2.cell? ⟨w.heap.size + 1 + 1 + 1, 0, none⟩ = some (.int .i16 0) := by rw [← hW2, World.cell?_setCell_other _ _ _ _ (by simp <;> omega), World.cell?_setCell_other _ _ _ _ (by simp <;> omega), z.cell (by simp <;> omega)]; exact e5
      have ae6 : W2.cell? ⟨w.heap.size + 1 + 1 + 1, 1, none⟩ = some (.int .i16 0) := by rw [← hW2, World.cell?_setCell_other _ _ _ _ (by simp <;> omega), World.cell?_setCell_other _ _ _ _ (by simp <;> omega), z.cell (by simp <;> omega)]; exact e6
      have ag0 : ∀ o, W2.frozen? ⟨w.heap.size, o, none⟩ = false := fun o => by rw [← hW2, World.frozen?_setCell, World.frozen?_setCell, z.frozen (by simp <;> omega)]; exact g0 o
      have ag4 : W2.frozen? ⟨w.heap.size + 1 + 1, 0, none⟩ = false := by rw [← hW2, World.frozen?_setCell, World.frozen?_setCell, z.frozen (by simp <;> omega)]; exact g4
      have ag5 : ∀ o, W2.frozen? ⟨w.heap.size + 1 + 1 + 1, o, none⟩ = false := fun o => by rw [← hW2, World.frozen?_setCell, World.frozen?_setCell, z.frozen (by simp <;> omega)]; exact g5 o
      clear hW2
      clear e0 e1 e2 e3 e4 e5 e6 g0 g4 g5
      obtain ⟨k2, hk2⟩ : ∃ k2, (apart fy ty < n - k ∧ k2 = apart fy ty) ∨ (¬ apart fy ty < n - k ∧ k2 = n - k) := by
        by_cases hh : apart fy ty < n - k
        · exact ⟨_, .inl ⟨hh, rfl⟩⟩
        · exact ⟨_, .inr ⟨hh, rfl⟩⟩
      have HK2 := Lib.hid hk2
      clear hk2
      go_wp2_with fail
      refine (go1_any w.heap.size 1 (w.heap.size + 1 + 1) fy ty (n - k) k2 W2 h3 h4 h7 h8 (by omega) (by omega) ae1 ae4 (ag0 1) ag4 (by omega) (by omega) (by omega) (by have := HK2.out; omega)).mono ?_
      rintro e w' ⟨rfl, z2, rfl⟩
      obtain ⟨W3, hW3⟩ : ∃ W3, (z2.i.setCell ⟨w.heap.size + 1 + 1, 0, none⟩ (.int .i64 (n - k - k2))).setCell ⟨w.heap.size, 1, none⟩ (.int .i16 (tow fy ty (n - k))) = W3 := ⟨_, rfl⟩
      rw [hW3]
      have zW3 : w.heap.size + 4 ≤ W3.heap.size := by rw [← hW3]; have := z2.size; simp [World.setCell]; omega
      have bW3 : Below w.heap.size w W3 := by rw [← hW3]; exact ((bW2.trans (z2.h.mono bW2.size)).setCell (p := ⟨w.heap.size + 1 + 1, 0, none⟩) (by simp <;> omega) _).setCell (p := ⟨w.heap.size, 1, none⟩) (by simp) _
      have be0 : W3.cell? ⟨w.heap.size, 0, none⟩ = some (.int .i16 (tow fx tx n)) := by rw [← hW3, World.cell?_setCell_other _ _ _ _ (by simp <;> omega), World.cell?_setCell_other _ _ _ _ (by simp <;> omega), z2.cell (by simp <;> omega)]; exact ae0
      have be1 : W3.cell? ⟨w.heap.size, 1, none⟩ = some (.int .i16 (tow fy ty (n - k))) := by rw [← hW3]; exact World.cell?_setCell_same' _ _ _ (by rw [World.cell?_setCell_other _ _ _ _ (by simp <;> omega), z2.cell (by simp <;> omega), ae1]; rfl)
      have be5 : W3.cell? ⟨w.heap.size + 1 + 1 + 1, 0, none⟩ = some (.int .i16 0) := by rw [← hW3, World.cell?_setCell_other _ _ _ _ (by simp <;> omega), World.cell?_setCell_other _ _ _ _ (by simp <;> omega), z2.cell (by simp <;> omega)]; exact ae5
      have be6 : W3.cell? ⟨w.heap.size + 1 + 1 + 1, 1, none⟩ = some (.int .i16 0) := by rw [← hW3, World.cell?_setCell_other _ _ _ _ (by simp <;> omega), World.cell?_setCell_other _ _ _ _ (by simp <;> omega), z2.cell (by simp <;> omega)]; exact ae6
      have bg0 : ∀ o, W3.frozen? ⟨w.heap.size, o, none⟩ = false := fun o => by rw [← hW3, World.frozen?_setCell, World.frozen?_setCell, z2.frozen (by simp <;> omega)]; exact ag0 o
      have bg4 : W3.frozen? ⟨w.heap.size + 1 + 1, 0, none⟩ = false := by rw [← hW3, World.frozen?_setCell, World.frozen?_setCell, z2.frozen (by simp <;> omega)]; exact ag4
      have bg5 : ∀ o, W3.frozen? ⟨w.heap.size + 1 + 1 + 1, o, none⟩ = false := fun o => by rw [← hW3, World.frozen?_setCell, World.frozen?_setCell, z2.frozen (by simp <;> omega)]; exact ag5 o
      clear hW3
      clear ae0 ae1 ae3 ae4 ae5 ae6 ag0 ag4 ag5
      go_wp2
      refine bodyPost_ret (v := .agg #[.int .i16 (tow fx tx n), .int .i16 (tow fy ty (n - k))]) (by simp [results, Try.results24, go_sem, be5, be6]) rfl (gives_of_eq ?_ ?_)
      · have h0 : ¬ n ≤ 0 := by omega
        have h11 : ¬ apart fx tx + apart fy ty ≤ n := by omega
        have hkk : k = if apart fx tx < n then apart fx tx else n := by have := HK.out; split <;> omega
        unfold stepX stepY; simp only [if_neg h0, if_neg h11, ← hkk]
      · exact (bW3.setCell (p := ⟨w.heap.size + 1 + 1 + 1, 0, none⟩) (by simp <;> omega) _).setCell (p := ⟨w.heap.size + 1 + 1 + 1, 1, none⟩) (by simp <;> omega) _
end Go.Proofs.Ytilimgjmiijkiaa
