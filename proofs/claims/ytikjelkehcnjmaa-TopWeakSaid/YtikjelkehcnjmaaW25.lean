/- Top: TopWeak, walked. -/
import Derived.Test.YtikjelkehcnjmaaW23
namespace Go.Proofs.Ytikjelkehcnjmaa
open Go.RowKit
set_option linter.unusedVariables false
set_option linter.unusedSimpArgs false
section
variable {w : World} {A : Option Addr} {n c : Nat} {xs : List Ed} {A1 : Option Addr} {n1 c1 : Nat} {A2 : Option Addr} {n2 c2 : Nat} {A3 : Option Addr} {n3 c3 : Nat} {A4 : Option Addr} {n4 c4 : Nat} {ps qs : List Pr} {ys zs : List Int}
set_option maxRecDepth 20000 in
set_option maxHeartbeats 32000000 in
theorem weak_no {rows cols : Int} (hR : Rd Ed.cells 3 w w.heap.size A n xs) (hn : n ≤ 9223372036854775807) (hG : ¬ Gr rows cols xs) (hP : Rd Pr.cells 2 w w.heap.size A1 n1 ps) (hn1 : n1 ≤ 9223372036854775807) (hY : Rd iint 1 w w.heap.size A2 n2 ys) (hZ : Rd iint 1 w w.heap.size A3 n3 zs) (yb : ∀ i, iy ys i ≤ 9223372036854775807) :
    Calls Try.prog 4 #[.agg (gv rows cols A n c), .agg (cv A1 n1 c1 A2 n2 c2 A3 n3 c3), .slice A4 n4 c4] w (Gives (.bool true) w) := by
  have HR := Lib.hid hR
  have HG := Lib.hid hG
  have HP := Lib.hid hP
  have HY := Lib.hid hY
  have HZ := Lib.hid hZ
  have HYB := Lib.hid yb
  clear hR hG hP hY hZ yb
  have S0 := mem_zero w
  go_enter Try.func4, Try.ntmps4
  go_wp2_with (first
    | (refine wpList_boxnew rfl 24 _ (by rfl) _ (by rfl) (gv rows cols A n c) rfl S0 ?_; intro w1 bg S1; clear S0)
    | (refine wpList_boxnew rfl 28 _ (by rfl) _ (by rfl) (cv A1 n1 c1 A2 n2 c2 A3 n3 c3) rfl S1 ?_; intro w2 bc S2; clear S1)
    | (refine wpList_getrow rfl 24 _ (by rfl) bg (by rfl) S2 0 (by rfl) _ Try.underlying24 rfl (by exact size24) ?_)
    | fail)
  refine (best_no ((HR.out.below S2.below).up S2.below.size) hn HG.out).mono ?_
  rintro e w3 ⟨rfl, x, rfl⟩
  have S3 := S2.up x.h
  clear S2
  generalize x.i = w4 at *
  clear x
  go_wp2_with (first
    | (refine wpList_new rfl 28 (by rfl) (cv none 0 0 none 0 0 none 0 0) 3 zero28 S3 ?_; intro w5 b5 S5; clear S3)
    | (refine wpList_putrow rfl 28 _ _ (by rfl) b5 (by rfl) (cv none 0 0 none 0 0 none 0 0) (by rfl) S5 2 (by rfl) (by exact size28) (by rfl) (cv_one _ _ _ _ _ _ _ _ _) ?_; intro w6 S6; clear S5)
    | (refine wpList_loadrow_g (by rfl) 24 _ (by rfl) bg (by rfl) _ _ _ (S6.at 0 rfl) Try.underlying24 rfl (by exact size24) ?_)
    | (refine wpList_loadrow_g (by rfl) 28 _ (by rfl) bc (by rfl) _ _ _ (S6.at 1 rfl) Try.underlying28 rfl (by exact size28) ?_)
    | fail)
  refine (certc_ok (m := 0) (k := 0) (fun h => absurd h HG.out) ((HR.out.below S6.below).up S6.below.size) hn ((HP.out.below S6.below).up S6.below.size) hn1 ((HY.out.below S6.below).up S6.below.size) ((HZ.out.below S6.below).up S6.below.size) HYB.out).mono ?_
  rintro e w7 ⟨rfl, x, rfl⟩
  have ec : cres rows cols 0 0 n2 n3 xs ps ys zs 0 = 170 := chk_no HG.out
  rw [fst_at (i := 0) (fun j hj => absurd hj (Nat.not_lt_zero _)) (by rw [ec]; decide) (by omega), ec]
  have S7 := S6.up x.h
  clear S6 ec
  generalize x.i = w8 at *
  clear x
  go_wp2_with fail
  refine (known_ok _).mono ?_
  rintro e w9 ⟨rfl, x, rfl⟩
  have S9 := S7.up x.h
  clear S7
  generalize x.i = w10 at *
  clear x
  go_wp2_with fail
  go_ret
  exact gives_of S9.below
set_option maxRecDepth 20000 in
set_option maxHeartbeats 32000000 in
theorem weak_ok {m k : Nat} (hR : Rd Ed.cells 3 w w.heap.size A n xs) (hn : n ≤ 9223372036854775807) (hG : Gr m k xs) (hP : Rd Pr.cells 2 w w.heap.size A1 n1 ps) (hn1 : n1 ≤ 9223372036854775807) (hY : Rd iint 1 w w.heap.size A2 n2 ys) (hZ : Rd iint 1 w w.heap.size A3 n3 zs) (yb : ∀ i, iy ys i ≤ 9223372036854775807) (hQ : Rd Pr.cells 2 w w.heap.size A4 n4 qs) (hn4 : n4 ≤ 9223372036854775807) :
    Calls Try.prog 4 #[.agg (gv m k A n c), .agg (cv A1 n1 c1 A2 n2 c2 A3 n3 c3), .slice A4 n4 c4] w (Gives (.bool true) w) := by
  have m64 : m ≤ 64 := by have := hG.1; unfold Sz at this; omega
  have HR := Lib.hid hR
  have HG := Lib.hid hG
  have HP := Lib.hid hP
  have HY := Lib.hid hY
  have HZ := Lib.hid hZ
  have HYB := Lib.hid yb
  have HQ := Lib.hid hQ
  clear hR hG hP hY hZ yb hQ
  have S0 := mem_zero w
  go_enter Try.func4, Try.ntmps4
  go_wp2_with (first
    | (refine wpList_boxnew rfl 24 _ (by rfl) _ (by rfl) (gv m k A n c) rfl S0 ?_; intro w1 bg S1; clear S0)
    | (refine wpList_boxnew rfl 28 _ (by rfl) _ (by rfl) (cv A1 n1 c1 A2 n2 c2 A3 n3 c3) rfl S1 ?_; intro w2 bc S2; clear S1)
    | (refine wpList_getrow rfl 24 _ (by rfl) bg (by rfl) S2 0 (by rfl) _ Try.underlying24 rfl (by exact size24) ?_)
    | fail)
  refine (best_yes ((HR.out.below S2.below).up S2.below.size) hn HG.out).mono ?_
  rintro e w3 ⟨f, Y, Z, B1, d1, b2, b3, rfl, hb, gP, gY, gZ, hM, hL⟩
  have S3 := S2.up hb
  have GP := Lib.hid gP
  have GY := Lib.hid gY
  have GZ := Lib.hid gZ
  have HM := Lib.hid hM
  have HL := Lib.hid hL
  have HBC := Lib.hid (best_bc HG.out hM hL)
  obtain ⟨np, hnp⟩ : ∃ np, np = (pl f m).length := ⟨_, rfl⟩
  have np64 : np ≤ 64 := by rw [hnp]; exact Nat.le_trans (pl_len f m) m64
  rw [← hnp]
  have HNP := Lib.hid hnp
  clear S2 hb gP gY gZ hM hL hnp
  have GP2 := Lib.hid (show Rd Pr.cells 2 w3 w3.heap.size B1 np (pl f m) by have := GP.out; rw [← HNP.out] at this; exact this)
  have T0 := mem_zero w3
  go_upto_region 4 with (first
    | (refine wpList_new rfl 28 (by rfl) (cv none 0 0 none 0 0 none 0 0) 3 zero28 T0 ?_; intro w4 cb T1; clear T0)
    | (refine wpList_putrow rfl 28 _ _ (by rfl) cb (by rfl) (cv B1 np d1 (some ⟨b2, 0, none⟩) m m (some ⟨b3, 0, none⟩) k k) (by rfl) T1 0 (by rfl) (by exact size28) (by rfl) (cv_one _ _ _ _ _ _ _ _ _) ?_; intro w5 T2; clear T1)
    | fail)
  have S5 := S3.up T2.below
  clear S3
  have g0 := T2.cell 0 (b := cb) rfl (j := 0) (v := .slice B1 np d1) rfl
  go_wp2_with (refine wpList_getrow rfl 24 _ (by rfl) bg (by rfl) S5 0 (by rfl) _ Try.underlying24 rfl (by exact size24) ?_)
  refine (worth_ok ((HR.out.below S5.below).up S5.below.size) hn HG.out ((GP2.out.below T2.below).up T2.below.size) (by omega)).mono ?_
  rintro e w6 ⟨rfl, x, rfl⟩
  rw [wres_yes HBC.out.vd, HBC.out.sm]
  have S7 := S5.up x.h
  have T7 := T2.up x.h
  clear S5 T2 g0
  generalize x.i = w7 at *
  clear x
  have g1 := T7.cell 0 (b := cb) rfl (j := 1) (v := .slice (some ⟨b2, 0, none⟩) m m) rfl
  have g2 := T7.cell 0 (b := cb) rfl (j := 2) (v := .slice (some ⟨b3, 0, none⟩) k k) rfl
  go_wp2_with (refine wpList_getrow rfl 24 _ (by rfl) bg (by rfl) S7 0 (by rfl) _ Try.underlying24 rfl (by exact size24) ?_)
  refine (bound_ok ((HR.out.below S7.below).up S7.below.size) hn HG.out (((rd_iarr GY.out).below T7.below).up T7.below.size) (((rd_iarr GZ.out).below T7.below).up T7.below.size) HBC.out.yb HBC.out.dual HBC.out.max).mono ?_
  rintro e w8 ⟨rfl, x, rfl⟩
  rw [HBC.out.tot]
  have S9 := S7.up x.h
  have T9 := T7.up x.h
  clear S7 T7 g1 g2
  generalize x.i = w9 at *
  clear x
  obtain ⟨s, hs⟩ : ∃ s, s = wor (wt xs) f m := ⟨_, rfl⟩
  rw [← hs]
  have HS := Lib.hid hs
  clear hs
  go_wp2_with (first
    | (refine wpList_loadrow_g (by rfl) 24 _ (by rfl) bg (by rfl) _ _ _ (S9.at 0 rfl) Try.underlying24 rfl (by exact size24) ?_)
    | (refine wpList_loadrow_g (by rfl) 28 _ (by rfl) cb (by rfl) _ _ _ (T9.at 0 rfl) Try.underlying28 rfl (by exact size28) ?_)
    | fail)
  refine (certc_ok (m := m) (k := k) (ps := pl f m) (ys := fl Y m) (zs := fl Z k) (fun _ => ⟨rfl, rfl⟩) ((HR.out.below S9.below).up S9.below.size) hn ((GP2.out.below T9.below).up T9.below.size) (by omega) (((rd_iarr GY.out).below T9.below).up T9.below.size) (((rd_iarr GZ.out).below T9.below).up T9.below.size) HBC.out.yb).mono ?_
  rintro e w10 ⟨rfl, x, rfl⟩
  rw [HBC.out.ok]
  have S11 := S9.up x.h
  clear S9 T9
  generalize x.i = w11 at *
  clear x
  go_wp2_with (first
    | (refine wpList_getrow rfl 24 _ (by rfl) bg (by rfl) S11 0 (by rfl) _ Try.underlying24 rfl (by exact size24) ?_)
    | (refine wpList_getrow rfl 28 _ (by rfl) bc (by rfl) S11 1 (by rfl) _ Try.underlying28 rfl (by exact size28) ?_)
    | fail)
  refine (certc_ok (m := m) (k := k) (ps := ps) (ys := ys) (zs := zs) (fun _ => ⟨rfl, rfl⟩) ((HR.out.below S11.below).up S11.below.size) hn ((HP.out.below S11.below).up S11.below.size) hn1 ((HY.out.below S11.below).up S11.below.size) ((HZ.out.below S11.below).up S11.below.size) HYB.out).mono ?_
  rintro e w12 ⟨rfl, x, rfl⟩
  have S13 := S11.up x.h
  clear S11
  generalize x.i = w13 at *
  clear x
  obtain ⟨E, hE⟩ : ∃ E, E = fst (cres m k m k n2 n3 xs ps ys zs) 5 := ⟨_, rfl⟩
  rw [← hE]
  have HE := Lib.hid hE
  clear hE
  by_cases h0 : E = 0
  · have e0 : (E == 0) = true := by rw [h0]; rfl
    have f0 : decide (E = 0) = true := decide_eq_true h0
    have HB := Lib.hid (cert_best HG.out HM.out HL.out HY.out.len HZ.out.len (HE.out.symm.trans h0))
    clear h0
    have g3 := S13.cell 1 (b := bc) rfl (j := 0) (v := .slice A1 n1 c1) rfl
    go_wp2_with (refine wpList_getrow rfl 24 _ (by rfl) bg (by rfl) S13 0 (by rfl) _ Try.underlying24 rfl (by exact size24) ?_)
    refine (worth_ok ((HR.out.below S13.below).up S13.below.size) hn HG.out ((HP.out.below S13.below).up S13.below.size) hn1).mono ?_
    rintro e w14 ⟨rfl, x, rfl⟩
    rw [wres_yes HB.out.1, HB.out.2, ← HS.out]
    have S15 := S13.up x.h
    clear S13 g3
    generalize x.i = w15 at *
    clear x
    go_wp2_with (refine wpList_getrow rfl 24 _ (by rfl) bg (by rfl) S15 0 (by rfl) _ Try.underlying24 rfl (by exact size24) ?_)
    refine (worth_ok ((HR.out.below S15.below).up S15.below.size) hn HG.out ((HQ.out.below S15.below).up S15.below.size) hn4).mono ?_
    rintro e w16 ⟨rfl, x, rfl⟩
    have S17 := S15.up x.h
    clear S15
    generalize x.i = w17 at *
    clear x
    by_cases hV : Vd m k (wt xs) qs qs.length
    · have hle := other_le HG.out HM.out HL.out hV
      rw [← HS.out] at hle
      rw [wres_yes hV]
      have HVV := Lib.hid hV
      clear hV
      generalize sm (wt xs) qs qs.length = s2 at *
      have dl : decide (s2 ≤ s) = true := decide_eq_true hle
      go_wp2_with (refine wpList_getrow rfl 24 _ (by rfl) bg (by rfl) S17 0 (by rfl) _ Try.underlying24 rfl (by exact size24) ?_)
      refine (certp_ok ((HR.out.below S17.below).up S17.below.size) hn HG.out ((HQ.out.below S17.below).up S17.below.size) hn4).mono ?_
      rintro e w18 ⟨rfl, x, rfl⟩
      rw [pav_yes HVV.out]
      have S19 := S17.up x.h
      clear S17
      generalize x.i = w19 at *
      clear x
      go_wp2_with fail
      refine (known_ok _).mono ?_
      rintro e w20 ⟨rfl, x, rfl⟩
      have S21 := S19.up x.h
      clear S19
      generalize x.i = w21 at *
      clear x
      go_wp2_with fail
      go_ret
      exact gives_of S21.below
    · rw [wres_no hV]
      have HVV := Lib.hid hV
      clear hV
      go_wp2_with (refine wpList_getrow rfl 24 _ (by rfl) bg (by rfl) S17 0 (by rfl) _ Try.underlying24 rfl (by exact size24) ?_)
      refine (certp_ok ((HR.out.below S17.below).up S17.below.size) hn HG.out ((HQ.out.below S17.below).up S17.below.size) hn4).mono ?_
      rintro e w18 ⟨rfl, x, rfl⟩
      rw [pav_no HVV.out]
      have S19 := S17.up x.h
      clear S17
      generalize x.i = w19 at *
      clear x
      go_wp2_with fail
      refine (known_ok _).mono ?_
      rintro e w20 ⟨rfl, x, rfl⟩
      have S21 := S19.up x.h
      clear S19
      generalize x.i = w21 at *
      clear x
      go_wp2_with fail
      go_ret
      exact gives_of S21.below
  · have e0 : (E == 0) = false := beq_false_of_ne h0
    have f0 : decide (E = 0) = false := decide_eq_false h0
    have S15 := S13
    clear S13
    go_wp2_with (refine wpList_getrow rfl 24 _ (by rfl) bg (by rfl) S15 0 (by rfl) _ Try.underlying24 rfl (by exact size24) ?_)
    refine (worth_ok ((HR.out.below S15.below).up S15.below.size) hn HG.out ((HQ.out.below S15.below).up S15.below.size) hn4).mono ?_
    rintro e w16 ⟨rfl, x, rfl⟩
    have S17 := S15.up x.h
    clear S15
    generalize x.i = w17 at *
    clear x
    by_cases hV : Vd m k (wt xs) qs qs.length
    · have hle := other_le HG.out HM.out HL.out hV
      rw [← HS.out] at hle
      rw [wres_yes hV]
      have HVV := Lib.hid hV
      clear hV
      generalize sm (wt xs) qs qs.length = s2 at *
      have dl : decide (s2 ≤ s) = true := decide_eq_true hle
      go_wp2_with (refine wpList_getrow rfl 24 _ (by rfl) bg (by rfl) S17 0 (by rfl) _ Try.underlying24 rfl (by exact size24) ?_)
      refine (certp_ok ((HR.out.below S17.below).up S17.below.size) hn HG.out ((HQ.out.below S17.below).up S17.below.size) hn4).mono ?_
      rintro e w18 ⟨rfl, x, rfl⟩
      rw [pav_yes HVV.out]
      have S19 := S17.up x.h
      clear S17
      generalize x.i = w19 at *
      clear x
      go_wp2_with fail
      refine (known_ok _).mono ?_
      rintro e w20 ⟨rfl, x, rfl⟩
      have S21 := S19.up x.h
      clear S19
      generalize x.i = w21 at *
      clear x
      go_wp2_with fail
      go_ret
      exact gives_of S21.below
    · rw [wres_no hV]
      have HVV := Lib.hid hV
      clear hV
      go_wp2_with (refine wpList_getrow rfl 24 _ (by rfl) bg (by rfl) S17 0 (by rfl) _ Try.underlying24 rfl (by exact size24) ?_)
      refine (certp_ok ((HR.out.below S17.below).up S17.below.size) hn HG.out ((HQ.out.below S17.below).up S17.below.size) hn4).mono ?_
      rintro e w18 ⟨rfl, x, rfl⟩
      rw [pav_no HVV.out]
      have S19 := S17.up x.h
      clear S17
      generalize x.i = w19 at *
      clear x
      go_wp2_with fail
      refine (known_ok _).mono ?_
      rintro e w20 ⟨rfl, x, rfl⟩
      have S21 := S19.up x.h
      clear S19
      generalize x.i = w21 at *
      clear x
      go_wp2_with fail
      go_ret
      exact gives_of S21.below
end
end Go.Proofs.Ytikjelkehcnjmaa
