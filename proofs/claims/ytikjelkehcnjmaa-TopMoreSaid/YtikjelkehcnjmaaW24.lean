/- Top: TopMore, walked. -/
import Derived.Test.YtikjelkehcnjmaaW23
namespace Go.Proofs.Ytikjelkehcnjmaa
open Go.RowKit
set_option linter.unusedVariables false
set_option linter.unusedSimpArgs false
section
variable {w : World} {A : Option Addr} {n c : Nat} {xs : List Ed} {A2 : Option Addr} {n2 c2 : Nat} {ws : List Int}
set_option maxRecDepth 20000 in
set_option maxHeartbeats 32000000 in
theorem more_no {rows cols : Int} (hR : Rd Ed.cells 3 w w.heap.size A n xs) (hn : n ≤ 9223372036854775807) (hG : ¬ Gr rows cols xs) :
    Calls Try.prog 3 #[.agg (gv rows cols A n c), .slice A2 n2 c2] w (Gives (.bool true) w) := by
  have HR := Lib.hid hR
  have HG := Lib.hid hG
  clear hR hG
  have S0 := mem_zero w
  go_enter Try.func3, Try.ntmps3
  go_wp2_with (first
    | (refine wpList_boxnew rfl 24 _ (by rfl) _ (by rfl) (gv rows cols A n c) rfl S0 ?_; intro w1 bg S1; clear S0)
    | (refine wpList_getrow rfl 24 _ (by rfl) bg (by rfl) S1 0 (by rfl) _ Try.underlying24 rfl (by exact size24) ?_)
    | fail)
  refine (best_no ((HR.out.below S1.below).up S1.below.size) hn HG.out).mono ?_
  rintro e w3 ⟨rfl, x, rfl⟩
  have S3 := S1.up x.h
  clear S1
  generalize x.i = w4 at *
  clear x w1
  go_wp2_with (first
    | (refine wpList_new rfl 28 (by rfl) (cv none 0 0 none 0 0 none 0 0) 3 zero28 S3 ?_; intro w5 b5 S5; clear S3)
    | (refine wpList_putrow rfl 28 _ _ (by rfl) b5 (by rfl) (cv none 0 0 none 0 0 none 0 0) (by rfl) S5 1 (by rfl) (by exact size28) (by rfl) (cv_one _ _ _ _ _ _ _ _ _) ?_; intro w6 S6; clear S5)
    | fail)
  refine (known_ok _).mono ?_
  rintro e w7 ⟨rfl, x, rfl⟩
  have S7 := S6.up x.h
  clear S6
  generalize x.i = w8 at *
  clear x
  go_wp2_with fail
  go_ret
  exact gives_of S7.below
set_option maxRecDepth 20000 in
set_option maxHeartbeats 32000000 in
theorem more_ok {m k : Nat} (hR : Rd Ed.cells 3 w w.heap.size A n xs) (hn : n ≤ 9223372036854775807) (hG : Gr m k xs) (hWs : Rd iint 1 w w.heap.size A2 n2 ws) (wb : ∀ i, -9223372036854775808 ≤ iy ws i ∧ iy ws i ≤ 9223372036854775807) :
    Calls Try.prog 3 #[.agg (gv m k A n c), .slice A2 n2 c2] w (Gives (.bool true) w) := by
  have m64 : m ≤ 64 := by have := hG.1; unfold Sz at this; omega
  have k64 : k ≤ 64 := by have := hG.1; unfold Sz at this; omega
  have HR := Lib.hid hR
  have HG := Lib.hid hG
  have HWS := Lib.hid hWs
  have HWB := Lib.hid wb
  clear hR hG hWs wb
  have S0 := mem_zero w
  go_enter Try.func3, Try.ntmps3
  go_wp2_with (first
    | (refine wpList_boxnew rfl 24 _ (by rfl) _ (by rfl) (gv m k A n c) rfl S0 ?_; intro w1 bg S1; clear S0)
    | (refine wpList_getrow rfl 24 _ (by rfl) bg (by rfl) S1 0 (by rfl) _ Try.underlying24 rfl (by exact size24) ?_)
    | fail)
  refine (best_yes ((HR.out.below S1.below).up S1.below.size) hn HG.out).mono ?_
  rintro e w3 ⟨f, Y, Z, A1, c1, b2, b3, rfl, hb, hP, hY, hZ, hM, hL⟩
  have S3 := S1.up hb
  have HP := Lib.hid hP
  have HY := Lib.hid hY
  have HZ := Lib.hid hZ
  have HM := Lib.hid hM
  have HL := Lib.hid hL
  obtain ⟨np, hnp⟩ : ∃ np, np = (pl f m).length := ⟨_, rfl⟩
  have np64 : np ≤ 64 := by rw [hnp]; exact Nat.le_trans (pl_len f m) m64
  rw [← hnp]
  have HNP := Lib.hid hnp
  clear S1 hb hP hY hZ hM hL hnp
  have T0 := mem_zero w3
  go_upto_region 2 with (first
    | (refine wpList_new rfl 28 (by rfl) (cv none 0 0 none 0 0 none 0 0) 3 zero28 T0 ?_; intro w4 ca T1; clear T0)
    | (refine wpList_putrow rfl 28 _ _ (by rfl) ca (by rfl) (cv A1 np c1 (some ⟨b2, 0, none⟩) m m (some ⟨b3, 0, none⟩) k k) (by rfl) T1 0 (by rfl) (by exact size28) (by rfl) (cv_one _ _ _ _ _ _ _ _ _) ?_; intro w5 T2; clear T1)
    | fail)
  have S5 := S3.up T2.below
  clear S3
  have g1 := S5.cell 0 (b := bg) rfl (j := 1) (v := .int .i64 k) rfl
  by_cases hk : k < 64
  · have dk : decide ((64 : Int) ≤ (k : Int)) = false := decide_eq_false (by omega)
    have dk2 : decide (64 ≤ k) = false := decide_eq_false (by omega)
    go_wp2_with (refine wpList_getrow rfl 24 _ (by rfl) bg (by rfl) S5 0 (by rfl) _ Try.underlying24 rfl (by exact size24) ?_)
    refine (wider_ok ((HR.out.below S5.below).up S5.below.size) HG.out hk ((HWS.out.below S5.below).up S5.below.size) HWB.out).mono ?_
    rintro e w6 ⟨A5, n5, c5, L, rfl, hb6, hRL, hn5, hGL, hwl⟩
    have S7 := S5.up hb6
    have T7 := T2.up hb6
    have HRL := Lib.hid hRL
    have HGL := Lib.hid hGL
    have HWL := Lib.hid hwl
    clear S5 T2 hb6 hRL hGL hwl g1 dk dk2
    have V0 := mem_zero w6
    go_wp2_with (first
      | (refine wpList_new rfl 24 (by rfl) (gv 0 0 none 0 0) 3 zero24 V0 ?_; intro w7 bx V1; clear V0)
      | (refine wpList_putrow rfl 24 _ _ (by rfl) bx (by rfl) (gv m (k + 1 : Nat) A5 n5 c5) (by rfl) V1 0 (by rfl) (by exact size24) (by rfl) (gv_one _ _ _ _ _) ?_; intro w8 V2; clear V1)
      | (refine wpList_getrow rfl 24 _ (by rfl) bx (by rfl) V2 0 (by rfl) _ Try.underlying24 rfl (by exact size24) ?_)
      | fail)
    refine (best_yes ((HRL.out.below V2.below).up V2.below.size) hn5 HGL.out).mono ?_
    rintro e w9 ⟨f', Y', Z', A1', c1', b2', b3', rfl, hb', hP', hY', hZ', hM', hL'⟩
    have V9 := V2.up hb'
    have S9 := S7.up V9.below
    have T9 := T7.up V9.below
    have HP' := Lib.hid hP'
    have HY' := Lib.hid hY'
    have HZ' := Lib.hid hZ'
    have HM' := Lib.hid hM'
    have HL' := Lib.hid hL'
    obtain ⟨np', hnp'⟩ : ∃ np', np' = (pl f' m).length := ⟨_, rfl⟩
    have np64' : np' ≤ 64 := by rw [hnp']; exact Nat.le_trans (pl_len f' m) m64
    rw [← hnp']
    have HNP' := Lib.hid hnp'
    clear V2 S7 T7 hb' hP' hY' hZ' hM' hL' hnp'
    have HMC := Lib.hid (more_cols (fun r c _ hc => HWL.out r c hc) HM.out HL.out HM'.out HL'.out)
    have U0 := mem_zero w9
    go_upto_region 6 with (first
      | (refine wpList_new rfl 28 (by rfl) (cv none 0 0 none 0 0 none 0 0) 3 zero28 U0 ?_; intro w10 cb U1; clear U0)
      | (refine wpList_putrow rfl 28 _ _ (by rfl) cb (by rfl) (cv A1' np' c1' (some ⟨b2', 0, none⟩) m m (some ⟨b3', 0, none⟩) (k + 1) (k + 1)) (by rfl) U1 0 (by rfl) (by exact size28) (by rfl) (cv_one _ _ _ _ _ _ _ _ _) ?_; intro w11 U2; clear U1)
      | fail)
    have T11 := T9.up U2.below
    have a1 := T11.cell 0 (b := ca) rfl (j := 1) (v := .slice (some ⟨b2, 0, none⟩) m m) rfl
    have a2 := T11.cell 0 (b := ca) rfl (j := 2) (v := .slice (some ⟨b3, 0, none⟩) k k) rfl
    have e1 := U2.cell 0 (b := cb) rfl (j := 1) (v := .slice (some ⟨b2', 0, none⟩) m m) rfl
    have e2 := U2.cell 0 (b := cb) rfl (j := 2) (v := .slice (some ⟨b3', 0, none⟩) (k + 1) (k + 1)) rfl
    have z1 : (((k : Int) + 1) != ((k + 1 : Nat) : Int)) = false := by simp
    have z2 : (((k : Int) + 1) != ((k : Int) + 1)) = false := by simp
    have z3 : ((m : Int) != (m : Int)) = false := by simp
    go_wp2_with fail
    clear a1 a2 e1 e2 z1 z2 z3 T11
    go_loopg [10] m (fun gk v10 wr => ∃ i : Nat, gk + i = m ∧ v10 = .int .i64 i ∧ Mem w9 wr [(cb, .cells (cv A1' np' c1' (some ⟨b2', 0, none⟩) m m (some ⟨b3', 0, none⟩) (k + 1) (k + 1)) 28 (0, 0))])
    case atStart => exact ⟨0, rfl, rfl, U2⟩
    case round =>
      clear U2
      obtain ⟨i, hi, rfl, U⟩ := hrel
      have T := T9.up U.below
      have a1 := T.cell 0 (b := ca) rfl (j := 1) (v := .slice (some ⟨b2, 0, none⟩) m m) rfl
      by_cases him : i < m
      · have e1 := U.cell 0 (b := cb) rfl (j := 1) (v := .slice (some ⟨b2', 0, none⟩) m m) rfl
        have ya := icell_of ((T.below.block _ (lt_of_block HY.out)).trans HY.out) (j := i) him
        have yb := icell_of ((U.below.block _ (lt_of_block HY'.out)).trans HY'.out) (j := i) him
        have k1 := T.lt 0 (b := ca) rfl
        have k2 := U.lt 0 (b := cb) rfl
        have k3 := lt_of_block ((T.below.block _ (lt_of_block HY.out)).trans HY.out)
        have k4 := lt_of_block ((U.below.block _ (lt_of_block HY'.out)).trans HY'.out)
        have hc := HMC.out.1 i him
        have dc : decide (Y' i < Y i) = false := decide_eq_false (by omega)
        clear T
        go_wp2_with fail
        refine wp_region_bw wr.heap.size _ (Below.refl _ _) (by kernel_rfl) (by kernel_rfl) ?_
        repeat (go_big_quiet_step (fail))
        refine wpQuiet_nil ?_
        intro x
        have U3 := U.up x.h
        clear U ya yb k1 k2 k3 k4 e1 a1
        generalize x.i = w12 at *
        clear x wr
        go_wp2_with fail
        go_roundg (gk - 1)
        case measure => omega
        case rel => exact ⟨i + 1, by omega, by go_num, U3⟩
      · obtain rfl : i = m := by omega
        clear hi him T
        go_wp2_with fail
        clear a1
        go_loopg [11] k (fun gk v11 wr => ∃ j : Nat, gk + j = k ∧ v11 = .int .i64 j ∧ Mem w9 wr [(cb, .cells (cv A1' np' c1' (some ⟨b2', 0, none⟩) i i (some ⟨b3', 0, none⟩) (k + 1) (k + 1)) 28 (0, 0))])
        case atStart => exact ⟨0, rfl, rfl, U⟩
        case round =>
          clear U
          obtain ⟨j, hj, rfl, U⟩ := hrel
          have T := T9.up U.below
          have a2 := T.cell 0 (b := ca) rfl (j := 2) (v := .slice (some ⟨b3, 0, none⟩) k k) rfl
          by_cases hjk : j < k
          · have e2 := U.cell 0 (b := cb) rfl (j := 2) (v := .slice (some ⟨b3', 0, none⟩) (k + 1) (k + 1)) rfl
            have ya := icell_of ((T.below.block _ (lt_of_block HZ.out)).trans HZ.out) (j := j) hjk
            have yb := icell_of ((U.below.block _ (lt_of_block HZ'.out)).trans HZ'.out) (j := j) (by omega)
            have k1 := T.lt 0 (b := ca) rfl
            have k2 := U.lt 0 (b := cb) rfl
            have k3 := lt_of_block ((T.below.block _ (lt_of_block HZ.out)).trans HZ.out)
            have k4 := lt_of_block ((U.below.block _ (lt_of_block HZ'.out)).trans HZ'.out)
            have hc := HMC.out.2.1 j hjk
            have dc : decide (Z j < Z' j) = false := decide_eq_false (by omega)
            have jk1 : j < k + 1 := by omega
            clear T
            go_wp2_with fail
            refine wp_region_bw wr.heap.size _ (Below.refl _ _) (by kernel_rfl) (by kernel_rfl) ?_
            repeat (go_big_quiet_step (fail))
            refine wpQuiet_nil ?_
            intro x
            have U3 := U.up x.h
            clear U ya yb k1 k2 k3 k4 e2 a2
            generalize x.i = w12 at *
            clear x wr
            go_wp2_with fail
            go_roundg (gk - 1)
            case measure => omega
            case rel => exact ⟨j + 1, by omega, by go_num, U3⟩
          · obtain rfl : j = k := by omega
            clear hj hjk
            have S := S9.up U.below
            have V := V9.up U.below
            have a0 := T.cell 0 (b := ca) rfl (j := 0) (v := .slice A1 np c1) rfl
            go_wp2_with (first
              | (refine wpList_getrow rfl 24 _ (by rfl) bg (by rfl) S 0 (by rfl) _ Try.underlying24 rfl (by exact size24) ?_)
              | fail)
            have hP2 : Rd Pr.cells 2 wr wr.heap.size A1 np (pl f i) := by
              have := (HP.out.below T.below).up T.below.size
              rw [← HNP.out] at this; exact this
            refine (worth_ok ((HR.out.below S.below).up S.below.size) hn HG.out hP2 (by omega)).mono ?_
            rintro e w13 ⟨rfl, x, rfl⟩
            have hpl := pl_ok HM.out i (Nat.le_refl _)
            rw [wres_yes hpl.1, hpl.2.2.2]
            have U5 := U.up x.h
            clear S T U a0 a2 hpl hP2 V
            generalize x.i = w14 at *
            clear x wr
            have V := V9.up U5.below
            have S := S9.up U5.below
            have e0 := U5.cell 0 (b := cb) rfl (j := 0) (v := .slice A1' np' c1') rfl
            go_wp2_with (first
              | (refine wpList_getrow rfl 24 _ (by rfl) bx (by rfl) V 0 (by rfl) _ Try.underlying24 rfl (by exact size24) ?_)
              | fail)
            have hP3 : Rd Pr.cells 2 w14 w14.heap.size A1' np' (pl f' i) := by
              have := (HP'.out.below U5.below).up U5.below.size
              rw [← HNP'.out] at this; exact this
            refine (worth_ok ((HRL.out.below V.below).up V.below.size) hn5 HGL.out hP3 (by omega)).mono ?_
            rintro e w15 ⟨rfl, x, rfl⟩
            have hpl := pl_ok HM'.out i (Nat.le_refl _)
            rw [wres_yes hpl.1, hpl.2.2.2]
            have S6 := S.up x.h
            clear S V U5 e0 hpl hP3
            generalize x.i = w16 at *
            clear x w14
            have hc := HMC.out.2.2
            generalize wor (wt xs) f i = s1 at *
            generalize wor (wt L) f' i = s2 at *
            have dc : decide (s1 ≤ s2) = true := decide_eq_true hc
            go_wp2_with fail
            refine (known_ok _).mono ?_
            rintro e w17 ⟨rfl, x, rfl⟩
            have S8 := S6.up x.h
            clear S6
            generalize x.i = w18 at *
            go_wp2_with fail
            go_ret
            exact gives_of S8.below
  · have dk : decide ((64 : Int) ≤ (k : Int)) = true := decide_eq_true (by omega)
    have dk2 : decide (64 ≤ k) = true := decide_eq_true (by omega)
    go_wp2_with fail
    refine (known_ok _).mono ?_
    rintro e w7 ⟨rfl, x, rfl⟩
    have S7 := S5.up x.h
    clear S5
    generalize x.i = w8 at *
    clear x
    go_wp2_with fail
    go_ret
    exact gives_of S7.below
end
end Go.Proofs.Ytikjelkehcnjmaa
