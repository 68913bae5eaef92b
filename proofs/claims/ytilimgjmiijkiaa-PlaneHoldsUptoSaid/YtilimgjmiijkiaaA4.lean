/- Contracts of plane and of the reference, 4: steps of the reference. -/
import Derived.Test.YtilimgjmiijkiaaA3
import Derived.Deep.RegionHeld3
namespace Go.Proofs.Ytilimgjmiijkiaa
open Go.RowKit
attribute [local go_sem] BW.cell BW.frozen

def tow (x t n : Int) : Int := if t < x then x - (if apart x t < n then apart x t else n) else x + (if apart x t < n then apart x t else n)

set_option maxHeartbeats 400000 in
theorem toward_any (x t n : Int) (w : World) (h1 : -32768 ≤ x) (h2 : x ≤ 32767) (h3 : -32768 ≤ t) (h4 : t ≤ 32767) (h5 : 0 ≤ n) :
    Calls Try.prog 52 #[.int .i16 x, .int .i16 t, .int .i64 n] w (Keeps (.int .i16 (tow x t n)) w) := by
  have hs : size (t - x) = apart x t := by unfold size apart; split <;> split <;> omega
  by_cases h6 : t < x
  · have hap : apart x t = x - t := by unfold apart; split <;> omega
    rw [hap] at hs
    by_cases h7 : x - t < n
    · go_enter Try.func52, Try.ntmps52
      go_wp2_with (go_at_call 50; refine (size_any _ _ (by omega) (by omega)).mono ?_; rintro e w' ⟨rfl, rfl⟩)
      go_ret
      refine keeps_eq ?_
      unfold tow; rw [hap, if_pos h6, if_pos h7]
      show Value.int _ _ = _
      exact congrArg _ (by omega)
    · go_enter Try.func52, Try.ntmps52
      go_wp2_with (go_at_call 50; refine (size_any _ _ (by omega) (by omega)).mono ?_; rintro e w' ⟨rfl, rfl⟩)
      go_ret
      exact keeps_eq (by unfold tow; rw [hap, if_pos h6, if_neg (by omega)]; rfl)
  · have hap : apart x t = t - x := by unfold apart; split <;> omega
    rw [hap] at hs
    by_cases h7 : t - x < n
    · go_enter Try.func52, Try.ntmps52
      go_wp2_with (go_at_call 50; refine (size_any _ _ (by omega) (by omega)).mono ?_; rintro e w' ⟨rfl, rfl⟩)
      go_ret
      refine keeps_eq ?_
      unfold tow; rw [hap, if_neg (by omega), if_pos h7]
      show Value.int _ _ = _
      exact congrArg _ (by omega)
    · go_enter Try.func52, Try.ntmps52
      go_wp2_with (go_at_call 50; refine (size_any _ _ (by omega) (by omega)).mono ?_; rintro e w' ⟨rfl, rfl⟩)
      go_ret
      exact keeps_eq (by unfold tow; rw [hap, if_neg (by omega), if_neg (by omega)]; rfl)

def rstepX (fx tx n : Int) : Int := if n ≤ 0 then fx else tow fx tx n
def rstepY (fx fy tx ty n : Int) : Int := if n ≤ 0 then fy else if apart fx tx < n then tow fy ty (n - apart fx tx) else fy

set_option maxHeartbeats 1000000 in
theorem rstep_any (fx fy tx ty n : Int) (w : World) (h1 : -32768 ≤ fx) (h2 : fx ≤ 32767) (h3 : -32768 ≤ fy) (h4 : fy ≤ 32767) (h5 : -32768 ≤ tx) (h6 : tx ≤ 32767) (h7 : -32768 ≤ ty) (h8 : ty ≤ 32767) (hn : n ≤ 9223372036854775807) :
    Calls Try.prog 25 #[.agg #[.int .i16 fx, .int .i16 fy], .agg #[.int .i16 tx, .int .i16 ty], .int .i64 n] w (Gives (.agg #[.int .i16 (rstepX fx tx n), .int .i16 (rstepY fx fy tx ty n)]) w) := by
  by_cases h9 : n ≤ 0
  · go_enter Try.func25, Try.ntmps25
    go_wp2
    refine bodyPost_ret (v := .agg #[.int .i16 fx, .int .i16 fy]) (by simp [results, Try.results25, go_sem]) rfl (gives_of_eq ?_ ?_)
    · unfold rstepX rstepY; rw [if_pos h9, if_pos h9]
    · exact (((Below.refl _ w).alloc (Nat.le_refl _) _).alloc (by simp) _).alloc (by simp; omega) _
  · have hs : size (tx - fx) = apart fx tx := by unfold size apart; split <;> split <;> omega
    obtain ⟨ha1, ha2⟩ := apart_bd fx tx h1 h2 h5 h6
    by_cases h10 : apart fx tx < n
    · go_enter Try.func25, Try.ntmps25
      go_wp2_with (go_at_call 50; refine (size_any _ _ (by omega) (by omega)).mono ?_; rintro e w' ⟨rfl, rfl⟩)
      go_region_held3 (fun w' => w'.cell? ⟨w.heap.size, 0, none⟩ = some (.int .i16 fx) ∧ w'.cell? ⟨w.heap.size, 1, none⟩ = some (.int .i16 fy) ∧ w'.cell? ⟨w.heap.size + 1, 0, none⟩ = some (.int .i16 tx)) (go_keep) (first | (go_at_call 52; refine (toward_any _ _ _ _ (by assumption) (by assumption) (by assumption) (by assumption) (by omega)).mono ?_; rintro e w' ⟨rfl, rfl⟩))
      all_goals
        rename_i hHeld
        clear hHeld
        go_wp2_with (go_at_call 52; refine (toward_any _ _ _ _ (by assumption) (by assumption) (by assumption) (by assumption) (by omega)).mono ?_; rintro e w' ⟨rfl, rfl⟩)
        refine bodyPost_ret (v := .agg #[.int .i16 (tow fx tx n), .int .i16 (tow fy ty (n - apart fx tx))]) (by simp [results, Try.results25, go_sem]) rfl (gives_of_eq ?_ ?_)
        · unfold rstepX rstepY; rw [if_neg (by omega), if_neg (by omega), if_pos h10]
        · exact (((((Below.refl _ w).alloc (Nat.le_refl _) _).alloc (by simp) _).alloc (by simp; omega) _).alloc (by simp; omega) _).drew
    · go_enter Try.func25, Try.ntmps25
      go_wp2_with (go_at_call 50; refine (size_any _ _ (by omega) (by omega)).mono ?_; rintro e w' ⟨rfl, rfl⟩)
      go_region_held3 (fun w' => w'.cell? ⟨w.heap.size, 0, none⟩ = some (.int .i16 fx) ∧ w'.cell? ⟨w.heap.size, 1, none⟩ = some (.int .i16 fy) ∧ w'.cell? ⟨w.heap.size + 1, 0, none⟩ = some (.int .i16 tx)) (go_keep) (first | (go_at_call 52; refine (toward_any _ _ _ _ (by assumption) (by assumption) (by assumption) (by assumption) (by omega)).mono ?_; rintro e w' ⟨rfl, rfl⟩))
      all_goals
        rename_i hHeld
        clear hHeld
        go_wp2
        refine bodyPost_ret (v := .agg #[.int .i16 (tow fx tx n), .int .i16 fy]) (by simp [results, Try.results25, go_sem]) rfl (gives_of_eq ?_ ?_)
        · unfold rstepX rstepY; rw [if_neg (by omega), if_neg (by omega), if_neg (by omega)]
        · exact (((((Below.refl _ w).alloc (Nat.le_refl _) _).alloc (by simp) _).alloc (by simp; omega) _).alloc (by simp; omega) _).drew

set_option maxHeartbeats 1000000 in
theorem raround_core (x y r R : Int) (w : World) (h1 : -32768 ≤ x) (h2 : x ≤ 32767) (h3 : -32768 ≤ y) (h4 : y ≤ 32767) (hr : (r < 0 ∧ R = 0) ∨ (0 ≤ r ∧ r ≤ 65535 ∧ R = r) ∨ (65535 < r ∧ R = 65535)) :
    Calls Try.prog 42 #[.agg #[.int .i16 x, .int .i16 y], .int .i64 r] w (Gives (.agg #[.int .i16 (cut (x - R)), .int .i16 (cut (y - R)), .int .i16 (cut (x + R)), .int .i16 (cut (y + R))]) w) := by
  rcases hr with ⟨h5, rfl⟩ | ⟨h5, h6, rfl⟩ | ⟨h5, rfl⟩
  all_goals
    go_enter Try.func42, Try.ntmps42
    go_wp2
    go_region_held3 (fun w' => w'.cell? ⟨w.heap.size, 0, none⟩ = some (.int .i16 x) ∧ w'.cell? ⟨w.heap.size, 1, none⟩ = some (.int .i16 y)) (go_keep) (first | (go_at_call 57; refine (edge_any _ _).mono ?_; rintro e w' ⟨rfl, rfl⟩))
    rename_i hHeld
    clear hHeld
    go_wp2
    refine bodyPost_ret (v := _) (by simp [results, Try.results42, go_sem]; rfl) rfl (gives_of_eq ?_ ?_)
    · have e : ∀ n : Int, -200000 ≤ n → n ≤ 200000 → IntKind.i64.wrap n = n := fun n a b => IntWalk.i64_in n ⟨by omega, by omega⟩
      first
        | simp [e x (by omega) (by omega), e y (by omega) (by omega), e (x - 65535) (by omega) (by omega), e (y - 65535) (by omega) (by omega), e (x + 65535) (by omega) (by omega), e (y + 65535) (by omega) (by omega)]; done
        | simp [e x (by omega) (by omega), e y (by omega) (by omega)]; done
        | simp [e x (by omega) (by omega), e y (by omega) (by omega), e (x - R) (by omega) (by omega), e (y - R) (by omega) (by omega), e (x + R) (by omega) (by omega), e (y + R) (by omega) (by omega)]
    · exact ((((Below.refl _ w).alloc (Nat.le_refl _) _).alloc (by simp) _)).drew
theorem raround_any (x y r : Int) (w : World) (h1 : -32768 ≤ x) (h2 : x ≤ 32767) (h3 : -32768 ≤ y) (h4 : y ≤ 32767) :
    Calls Try.prog 42 #[.agg #[.int .i16 x, .int .i16 y], .int .i64 r] w (Gives (.agg #[.int .i16 (cut (x - rad r)), .int .i16 (cut (y - rad r)), .int .i16 (cut (x + rad r)), .int .i16 (cut (y + rad r))]) w) := by
  have h := raround_core x y r (rrad r) w h1 h2 h3 h4 (by unfold rrad; split <;> (try split) <;> omega)
  obtain ⟨a, b⟩ := cut_rad x r h1 h2
  obtain ⟨c, d⟩ := cut_rad y r h3 h4
  rw [a, b, c, d] at h
  exact h

/-- the steps of the plane -/
theorem rstep_eq (fx fy tx ty n : Int) : rstepX fx tx n = (if n ≤ 0 then fx else if apart fx tx + apart fy ty ≤ n then tx else tow fx tx n) ∧
    rstepY fx fy tx ty n = (if n ≤ 0 then fy else if apart fx tx + apart fy ty ≤ n then ty else tow fy ty (n - if apart fx tx < n then apart fx tx else n)) := by
  unfold rstepX rstepY tow
  have ha : ∀ a b, 0 ≤ apart a b ∧ (a ≤ b → apart a b = b - a) ∧ (b ≤ a → apart a b = a - b) := fun a b => by unfold apart; split <;> omega
  obtain ⟨a1, a2, a3⟩ := ha fx tx
  obtain ⟨b1, b2, b3⟩ := ha fy ty
  generalize apart fx tx = A at *
  generalize apart fy ty = B at *
  constructor
  · split
    · rfl
    · split <;> split <;> (try split) <;> omega
  · split
    · rfl
    · split <;> split <;> (try split) <;> (try split) <;> (try split) <;> omega
end Go.Proofs.Ytilimgjmiijkiaa
