/- Top: laid, walked: a graph's table. -/
import Derived.Test.YtikjelkehcnjmaaW6
namespace Go.Proofs.Ytikjelkehcnjmaa
open Go.RowKit
set_option linter.unusedVariables false
set_option linter.unusedSimpArgs false
theorem tarr_size (m k : Int) (W : Nat → Nat → Int) : (tarr m k W).size = 4098 := by simp [tarr, vl_len]
theorem tarr_set {m k : Int} {W : Nat → Nat → Int} {r c : Nat} (hr : r < 64) (hc : c < 64) (v : Int) : (tarr m k W).setIfInBounds (2 + r * 64 + c) (.int .i64 v) = tarr m k (set2 W r c v) := by
  have e := arr_set (n := 4096) (fun i => .int .i64 (W (i / 64) (i % 64))) (j := r * 64 + c) (by omega) (.int .i64 v)
  have e2 : (arr 4096 fun i => if i = r * 64 + c then .int .i64 v else .int .i64 (W (i / 64) (i % 64))) = arr 4096 fun i => .int .i64 (set2 W r c v (i / 64) (i % 64)) := arr_congr fun i hi => by
    unfold set2
    by_cases x : i = r * 64 + c
    · have a : i / 64 = r := by omega
      have b : i % 64 = c := by omega
      rw [if_pos x, if_pos ⟨a, b⟩]
    · rw [if_neg x, if_neg (fun y => x (by omega))]
  rw [e2] at e
  have e3 := congrArg Array.toList e
  unfold arr at e3
  rw [Array.toList_setIfInBounds] at e3
  apply Array.ext'
  unfold tarr
  rw [Array.toList_setIfInBounds]
  show (Value.int .i64 m :: Value.int .i64 k :: vl _ 4096 0).set (2 + r * 64 + c) _ = Value.int .i64 m :: Value.int .i64 k :: vl _ 4096 0
  rw [show 2 + r * 64 + c = (r * 64 + c) + 1 + 1 by omega, List.set_cons_succ, List.set_cons_succ]
  exact congrArg _ (congrArg _ e3)
theorem built57 (m k : Int) : Try.prog.built 57 [(0, .int .i64 m), (1, .int .i64 k)] = some (tarr m k fun _ _ => 0) := by kernel_rfl
set_option maxRecDepth 20000 in
set_option maxHeartbeats 32000000 in
theorem laid_ok {w : World} {m k : Nat} {A : Option Addr} {n c : Nat} {xs : List Ed} (hR : Rd Ed.cells 3 w w.heap.size A n xs) (hn : n ≤ 9223372036854775807) (hG : Gr m k xs) :
    Calls Try.prog 13 #[.agg (gv m k A n c)] w fun e w' => ∃ tb, e = .returned (.pointer (some ⟨tb, 0, none⟩)) ∧ w.heap.size ≤ tb ∧ Below w.heap.size w w' ∧ Tab w' tb m k (wt xs) := by
  have HR := Lib.hid hR
  have HL := Lib.hid hR.len
  have HG := Lib.hid hG
  have m64 : m ≤ 64 := by have := hG.1; unfold Sz at this; omega
  have k64 : k ≤ 64 := by have := hG.1; unfold Sz at this; omega
  clear hR hG
  have S0 := mem_zero w
  go_enter Try.func13, Try.ntmps13
  go_wp2_with (first
    | (refine wpList_boxnew rfl 24 _ (by rfl) _ (by rfl) (gv m k A n c) rfl S0 ?_; intro w1 bg S1; clear S0; have g0 := S1.cell 0 (b := bg) rfl (j := 0) (v := .int .i64 m) rfl; have g1 := S1.cell 0 (b := bg) rfl (j := 1) (v := .int .i64 k) rfl)
    | (refine wpList_build2 (by rfl) 57 [(0, .tmp 7), (1, .tmp 9)] (by rfl) [(0, .int .i64 m), (1, .int .i64 k)] (by rfl) (tarr m k fun _ _ => 0) (built57 m k) ?_)
    | (refine wpList_boxnew rfl 57 _ (by rfl) _ (by rfl) (tarr m k fun _ _ => 0) rfl S1 ?_; intro w2 tb S2; clear S1 g0 g1; have g2 := S2.cell 0 (b := bg) rfl (j := 2) (v := .slice A n c) rfl)
    | fail)
  go_loopg [15] n (fun gk v15 wr => ∃ j : Nat, gk + j = n ∧ v15 = .int .i64 j ∧ Mem w wr [(bg, .cells (gv m k A n c) 24 (0, 0)), (tb, .cells (tarr m k (wtn xs j)) 57 (0, 0))])
  case atStart => exact ⟨0, rfl, rfl, S2⟩
  case round =>
    clear S2 g2
    obtain ⟨j, hj, rfl, S⟩ := hrel
    by_cases hjn : j < n
    · have hx := ed_get (xs := xs) (i := j) (by rw [HL.out]; exact hjn)
      obtain ⟨ab, ao, rfl, hab, ra⟩ := (HR.out.below S.below).row hx
      have hb := (HG.out.2 j (by rw [HL.out]; exact hjn)).1
      clear hx hab
      have hstep : wtn xs (j + 1) = set2 (wtn xs j) (ed xs j).r.toNat (ed xs j).c.toNat (ed xs j).w := rfl
      generalize ed xs j = x at *
      obtain ⟨xr, xc, xw⟩ := x
      unfold InB at hb
      dsimp only at hb hstep
      obtain ⟨r, rfl⟩ : ∃ r : Nat, xr = r := ⟨xr.toNat, by omega⟩
      obtain ⟨c1, rfl⟩ : ∃ c1 : Nat, xc = c1 := ⟨xc.toNat, by omega⟩
      have r64 : r < 64 := by omega
      have c64 : c1 < 64 := by omega
      have HS := Lib.hid hstep
      have j9 : j < 9223372036854775807 := by omega
      clear hstep hb
      go_wp2_with (first
        | (refine wpList_loadmid_g (by rfl) 52 _ (by rfl) ab (ao + j * 3) (by rfl) _ _ ra Try.underlying52 rfl size52 ?_; clear ra)
        | (refine wpList_new rfl 52 (by rfl) #[.int .i64 0, .int .i64 0, .int .i64 0] 3 zero52 S ?_; intro w2 be S2; clear S)
        | (refine wpList_putrow rfl 52 _ _ (by rfl) be (by rfl) (Ed.cells ⟨r, c1, xw⟩).toArray (by rfl) S2 2 (by rfl) size52 (by rfl) (Ed.one _) ?_; intro w3 S3; clear S2)
        | fail)
      have x0 := S3.cell 2 (b := be) rfl (j := 0) (v := .int .i64 r) rfl
      have x1 := S3.cell 2 (b := be) rfl (j := 1) (v := .int .i64 c1) rfl
      have x2 := S3.cell 2 (b := be) rfl (j := 2) (v := .int .i64 xw) rfl
      go_frame
      refine wp_region_tailq 11 (by kernel_rfl) (by kernel_rfl) ?_
      simp only [List.take_succ_cons, List.take_zero, List.drop_succ_cons, List.drop_zero]
      repeat (go_big_quiet_step (fail))
      refine wpQuiet_nil ?_
      have S4 := S3.drew
      clear S3 x0 x1 x2
      generalize w3.drew = w7 at *
      go_wp2_with (first
        | (refine wpList_put rfl 3 _ _ (by rfl) tb (2 + r * 64 + c1) (by rfl) _ (by rfl) S4 1 (by rfl) (by rw [tarr_size]; omega) size3 (by rfl) (by rfl) _ (tarr_set r64 c64 _) ?_; intro w8 S8; clear S4)
        | fail)
      go_roundg (gk - 1)
      case measure => omega
      case rel =>
        refine ⟨j + 1, by omega, by go_num, ?_⟩
        rw [HS.out]
        exact Mem.pre [_, _] S8
    · obtain rfl : j = n := by omega
      clear hj hjn
      go_wp2_with fail
      go_ret
      exact ⟨tb, rfl, S.new 1 tb _ rfl, S.below, by unfold wt; rw [HL.out]; exact S.at 1 rfl⟩
end Go.Proofs.Ytikjelkehcnjmaa
