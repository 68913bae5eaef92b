/- Top: Worth, walked. -/
import Derived.Test.YtikjelkehcnjmaaW14
import Derived.Test.YtikjelkehcnjmaaM10
namespace Go.Proofs.Ytikjelkehcnjmaa
open Go.RowKit
set_option linter.unusedVariables false
set_option linter.unusedSimpArgs false
theorem Pr.one (p : Pr) : p.cells.toArray.all (·.oneCell') = true := by
  rw [List.all_toArray]; rfl
theorem zero50 : (Try.prog.info? 50).map (fun i => (i.zero, i.size)) = some (some (.agg #[.int .i64 0, .int .i64 0]), 2) := by kernel_rfl
theorem size50 : (Try.prog.info? 50).map (·.size) = some 2 := by kernel_rfl
noncomputable def wres (m k : Nat) (W : Nat → Nat → Int) (ps : List Pr) : Value := @ite _ (Vd m k W ps ps.length) (Classical.propDecidable _) (.tuple #[.int .i64 (sm W ps ps.length), .int .i64 0]) (.tuple #[.int .i64 0, .int .i64 180])
theorem wres_yes {m k : Nat} {W : Nat → Nat → Int} {ps : List Pr} (h : Vd m k W ps ps.length) : wres m k W ps = .tuple #[.int .i64 (sm W ps ps.length), .int .i64 0] := if_pos h
theorem wres_no {m k : Nat} {W : Nat → Nat → Int} {ps : List Pr} (h : ¬ Vd m k W ps ps.length) : wres m k W ps = .tuple #[.int .i64 0, .int .i64 180] := if_neg h
theorem Vd.count {m k : Nat} {W : Nat → Nat → Int} {ps : List Pr} {j : Nat} (h : Vd m k W ps j) : ∀ i, i ≤ j → (i : Int) - 1 ≤ lst ps i
  | 0, _ => by show ((0 : Nat) : Int) - 1 ≤ -1; omega
  | i + 1, hi => by
    have a := Vd.count h i (by omega)
    have b := (h i (by omega)).1
    show _ ≤ (pr ps i).r
    omega
theorem Vd.le {m k : Nat} {W : Nat → Nat → Int} {ps : List Pr} {j : Nat} (h : Vd m k W ps j) : j ≤ m := by
  cases j with
  | zero => omega
  | succ j =>
    have a := h.count (j + 1) (Nat.le_refl _)
    have b := (h j (by omega)).2.1
    have c : lst ps (j + 1) = (pr ps j).r := rfl
    omega
theorem sm_bd {W : Nat → Nat → Int} (hW : ∀ r c, 0 ≤ W r c ∧ W r c ≤ MAXW) (ps : List Pr) : ∀ j : Nat, 0 ≤ sm W ps j ∧ sm W ps j ≤ j * MAXW
  | 0 => ⟨Int.le_refl _, by show (0 : Int) ≤ _; simp⟩
  | j + 1 => by
    have a := sm_bd hW ps j
    have b := hW (pr ps j).r.toNat (pr ps j).c.toNat
    have e : sm W ps (j + 1) = sm W ps j + W (pr ps j).r.toNat (pr ps j).c.toNat := rfl
    have d : ((j + 1 : Nat) : Int) * MAXW = j * MAXW + MAXW := by rw [Int.natCast_add, Int.add_mul]; simp
    omega
theorem bad_at {m k : Nat} {W : Nat → Nat → Int} {ps : List Pr} {j : Nat} (hj : j < ps.length) (h : ¬ OkP m k W ps j) : ¬ Vd m k W ps ps.length := fun x => h (x j hj)
set_option maxRecDepth 20000 in
set_option maxHeartbeats 32000000 in
theorem worth_no {w : World} {rows cols : Int} {A : Option Addr} {n c : Nat} {xs : List Ed} {A2 : Option Addr} {n2 c2 : Nat} (hR : Rd Ed.cells 3 w w.heap.size A n xs) (hn : n ≤ 9223372036854775807) (hG : ¬ Gr rows cols xs) :
    Calls Try.prog 8 #[.agg (gv rows cols A n c), .slice A2 n2 c2] w (Gives (.tuple #[.int .i64 0, .int .i64 170]) w) := by
  have HR := Lib.hid hR
  have HG := Lib.hid hG
  clear hR hG
  have S0 := mem_zero w
  go_enter Try.func8, Try.ntmps8
  go_wp2_with (first
    | (refine wpList_boxnew rfl 24 _ (by rfl) _ (by rfl) (gv rows cols A n c) rfl S0 ?_; intro w1 bg S1; clear S0)
    | (refine wpList_getrow rfl 24 _ (by rfl) bg (by rfl) S1 0 (by rfl) _ Try.underlying24 rfl (by exact size24) ?_)
    | fail)
  refine (check_ok ((HR.out.below S1.below).up S1.below.size) hn).mono ?_
  rintro e w3 ⟨rfl, x, rfl⟩
  have S3 := S1.up x.h
  clear S1
  generalize x.i = w4 at *
  rw [chk_no HG.out]
  go_wp2_with fail
  go_ret2
  exact gives_of S3.below
set_option maxRecDepth 20000 in
set_option maxHeartbeats 32000000 in
theorem worth_ok {w : World} {m k : Nat} {A : Option Addr} {n c : Nat} {xs : List Ed} {A2 : Option Addr} {n2 c2 : Nat} {ps : List Pr} (hR : Rd Ed.cells 3 w w.heap.size A n xs) (hn : n ≤ 9223372036854775807) (hG : Gr m k xs) (hP : Rd Pr.cells 2 w w.heap.size A2 n2 ps) (hn2 : n2 ≤ 9223372036854775807) :
    Calls Try.prog 8 #[.agg (gv m k A n c), .slice A2 n2 c2] w (Gives (wres m k (wt xs) ps) w) := by
  have m64 : m ≤ 64 := by have := hG.1; unfold Sz at this; omega
  have k64 : k ≤ 64 := by have := hG.1; unfold Sz at this; omega
  have HW := Lib.hid hG.range
  have HR := Lib.hid hR
  have HG := Lib.hid hG
  have HP := Lib.hid hP
  have HL := Lib.hid hP.len
  clear hR hG hP
  have S0 := mem_zero w
  go_enter Try.func8, Try.ntmps8
  go_wp2_with (first
    | (refine wpList_boxnew rfl 24 _ (by rfl) _ (by rfl) (gv m k A n c) rfl S0 ?_; intro w1 bg S1; clear S0)
    | (refine wpList_getrow rfl 24 _ (by rfl) bg (by rfl) S1 0 (by rfl) _ Try.underlying24 rfl (by exact size24) ?_)
    | fail)
  refine (check_ok ((HR.out.below S1.below).up S1.below.size) hn).mono ?_
  rintro e w3 ⟨rfl, x, rfl⟩
  have S3 := S1.up x.h
  clear S1
  generalize x.i = w4 at *
  clear x w1
  rw [chk_ok HG.out]
  go_wp2_with (refine wpList_getrow rfl 24 _ (by rfl) bg (by rfl) S3 0 (by rfl) _ Try.underlying24 rfl (by exact size24) ?_)
  refine (laid_ok ((HR.out.below S3.below).up S3.below.size) hn HG.out).mono ?_
  rintro e w5 ⟨tb, rfl, htb, hb5, hT⟩
  have S5 := S3.add hb5 htb hT
  clear S3 htb hb5 hT
  go_wp2_with (first
    | (refine wpList_new rfl 54 (by rfl) (barr 64 fun _ => false) 64 zero54 S5 ?_; intro w6 bt S6; clear S5)
    | fail)
  go_loopg [9, 10, 22] n2 (fun gk v9 v10 v22 wr => ∃ j : Nat, gk + j = n2 ∧ v22 = .int .i64 j ∧ v9 = .int .i64 (lst ps j) ∧ v10 = .int .i64 (sm (wt xs) ps j) ∧ Vd m k (wt xs) ps j ∧ Mem w wr [(bg, .cells (gv m k A n c) 24 (0, 0)), (tb, .cells (tarr m k (wt xs)) 57 (0, 0)), (bt, .cells (barr 64 (tk ps j)) 54 (0, 0))])
  case atStart => exact ⟨0, rfl, rfl, rfl, rfl, fun i hi => absurd hi (Nat.not_lt_zero _), S6⟩
  case round =>
    clear S6
    obtain ⟨j, hj, rfl, rfl, rfl, V, S⟩ := hrel
    have HV := Lib.hid V
    clear V
    by_cases hjn : j < n2
    · have HJ := Lib.hid (And.intro hj hjn)
      have j9 : j < 9223372036854775807 := by omega
      have hx := pr_get (ps := ps) (i := j) (by rw [HL.out]; exact hjn)
      obtain ⟨ab, ao, rfl, hab, ra⟩ := (HP.out.below S.below).row hx
      clear hx hab hj
      have hjm := HV.out.le
      have sb := sm_bd HW.out ps j
      have sb2 : (j : Int) * MAXW ≤ 64 * MAXW := Int.mul_le_mul_of_nonneg_right (by omega) (by decide)
      have l0 := HV.out.lst0 j (Nat.le_refl _)
      obtain ⟨r, cc, hp⟩ : ∃ r cc, pr ps j = ⟨r, cc⟩ := ⟨_, _, rfl⟩
      rw [hp] at ra
      have HX := Lib.hid hp
      clear hp
      go_upto_region 10 with (first
        | (refine wpList_loadmid_g (by rfl) 50 _ (by rfl) ab (ao + j * 2) (by rfl) _ _ ra Try.underlying50 rfl size50 ?_; clear ra)
        | (refine wpList_new rfl 50 (by rfl) #[.int .i64 0, .int .i64 0] 2 zero50 S ?_; intro w2 be S2; clear S)
        | (refine wpList_putrow rfl 50 _ _ (by rfl) be (by rfl) (Pr.cells ⟨r, cc⟩).toArray (by rfl) S2 3 (by rfl) size50 (by rfl) (Pr.one _) ?_; intro w3 S3; clear S2)
        | fail)
      go_frame
      have x0 := S3.cell 3 (b := be) rfl (j := 0) (v := .int .i64 r) rfl
      have x1 := S3.cell 3 (b := be) rfl (j := 1) (v := .int .i64 cc) rfl
      have hT3 : Tab w3 tb m k (wt xs) := S3.at 1 rfl
      have t0 := hT3.rows
      have t1 := hT3.cols
      have k0 := S3.lt 1 (b := tb) rfl
      have k1 := S3.lt 2 (b := bt) rfl
      have k2 := S3.lt 3 (b := be) rfl
      have HT3 := Lib.hid hT3
      clear hT3
      by_cases h0 : r ≤ lst ps j
      · have d0 : decide (r ≤ lst ps j) = true := decide_eq_true h0
        refine wp_region_bw w3.heap.size _ (Below.refl _ _) (by kernel_rfl) (by kernel_rfl) ?_
        repeat (go_big_quiet_step (fail))
        refine wpQuiet_nil ?_
        intro x
        go_wp2_with fail
        go_ret2
        refine gives_of_eq ?_ (S3.below.trans (x.h.mono S3.below.size))
        rw [wres_no (bad_at (j := j) (by rw [HL.out]; exact HJ.out.2) (fun h => by unfold OkP at h; rw [HX.out] at h; have := h.1; dsimp only at this; omega))]
        rfl
      · have d0 : decide (r ≤ lst ps j) = false := decide_eq_false h0
        by_cases h1 : (m : Int) ≤ r
        · have d1 : decide ((m : Int) ≤ r) = true := decide_eq_true h1
          refine wp_region_bw w3.heap.size _ (Below.refl _ _) (by kernel_rfl) (by kernel_rfl) ?_
          repeat (go_big_quiet_step (fail))
          refine wpQuiet_nil ?_
          intro x
          go_wp2_with fail
          go_ret2
          refine gives_of_eq ?_ (S3.below.trans (x.h.mono S3.below.size))
          rw [wres_no (bad_at (j := j) (by rw [HL.out]; exact HJ.out.2) (fun h => by unfold OkP at h; rw [HX.out] at h; have := h.2.1; dsimp only at this; omega))]
          rfl
        · have d1 : decide ((m : Int) ≤ r) = false := decide_eq_false h1
          by_cases h2 : cc < 0
          · have d2 : decide (cc < 0) = true := decide_eq_true h2
            refine wp_region_bw w3.heap.size _ (Below.refl _ _) (by kernel_rfl) (by kernel_rfl) ?_
            repeat (go_big_quiet_step (fail))
            refine wpQuiet_nil ?_
            intro x
            go_wp2_with fail
            go_ret2
            refine gives_of_eq ?_ (S3.below.trans (x.h.mono S3.below.size))
            rw [wres_no (bad_at (j := j) (by rw [HL.out]; exact HJ.out.2) (fun h => by unfold OkP at h; rw [HX.out] at h; have := h.2.2.1; dsimp only at this; omega))]
            rfl
          · have d2 : decide (cc < 0) = false := decide_eq_false h2
            by_cases h3 : (k : Int) ≤ cc
            · have d3 : decide ((k : Int) ≤ cc) = true := decide_eq_true h3
              refine wp_region_bw w3.heap.size _ (Below.refl _ _) (by kernel_rfl) (by kernel_rfl) ?_
              repeat (go_big_quiet_step (fail))
              refine wpQuiet_nil ?_
              intro x
              go_wp2_with fail
              go_ret2
              refine gives_of_eq ?_ (S3.below.trans (x.h.mono S3.below.size))
              rw [wres_no (bad_at (j := j) (by rw [HL.out]; exact HJ.out.2) (fun h => by unfold OkP at h; rw [HX.out] at h; have := h.2.2.2.1; dsimp only at this; omega))]
              rfl
            · have d3 : decide ((k : Int) ≤ cc) = false := decide_eq_false h3
              obtain ⟨r0, rfl⟩ : ∃ r0 : Nat, r = r0 := ⟨r.toNat, by omega⟩
              obtain ⟨c0, rfl⟩ : ∃ c0 : Nat, cc = c0 := ⟨cc.toNat, by omega⟩
              have r64 : r0 < 64 := by omega
              have c64 : c0 < 64 := by omega
              have q0 := S3.bcell 2 (b := bt) rfl (j := c0) c64
              have q1 := HT3.out.w r64 c64 rfl
              have wb := HW.out r0 c0
              cases hT : tk ps j c0 with
              | true =>
                rw [hT] at q0
                have HTK := Lib.hid hT
                clear hT
                refine wp_region_bw w3.heap.size _ (Below.refl _ _) (by kernel_rfl) (by kernel_rfl) ?_
                repeat (go_big_quiet_step (fail))
                refine wpQuiet_nil ?_
                intro x
                go_wp2_with fail
                go_ret2
                refine gives_of_eq ?_ (S3.below.trans (x.h.mono S3.below.size))
                rw [wres_no (bad_at (j := j) (by rw [HL.out]; exact HJ.out.2) (fun h => by unfold OkP at h; rw [HX.out] at h; have := h.2.2.2.2.1; dsimp only at this; rw [Int.toNat_natCast, HTK.out] at this; cases this))]
                rfl
              | false =>
                rw [hT] at q0
                have HTK := Lib.hid hT
                clear hT
                by_cases h5 : (wt xs) r0 c0 = 0
                · have H5 := Lib.hid h5
                  rw [h5] at q1
                  clear h5
                  refine wp_region_bw w3.heap.size _ (Below.refl _ _) (by kernel_rfl) (by kernel_rfl) ?_
                  repeat (go_big_quiet_step (fail))
                  refine wpQuiet_nil ?_
                  intro x
                  go_wp2_with fail
                  go_ret2
                  refine gives_of_eq ?_ (S3.below.trans (x.h.mono S3.below.size))
                  rw [wres_no (bad_at (j := j) (by rw [HL.out]; exact HJ.out.2) (fun h => by unfold OkP at h; rw [HX.out] at h; have := h.2.2.2.2.2; dsimp only at this; rw [Int.toNat_natCast, Int.toNat_natCast] at this; exact this H5.out))]
                  rfl
                · have d5 : decide ((wt xs) r0 c0 = 0) = false := decide_eq_false h5
                  have e5 : ((wt xs) r0 c0 == 0) = false := beq_false_of_ne h5
                  have hok : OkP m k (wt xs) ps j := by
                    unfold OkP
                    rw [HX.out]
                    dsimp only
                    rw [Int.toNat_natCast, Int.toNat_natCast]
                    exact ⟨by omega, by omega, by omega, by omega, HTK.out, h5⟩
                  have HOK := Lib.hid hok
                  clear hok
                  refine wp_region_bw w3.heap.size _ (Below.refl _ _) (by kernel_rfl) (by kernel_rfl) ?_
                  repeat (go_big_quiet_step (fail))
                  refine wpQuiet_nil ?_
                  intro x
                  have S4 := S3.up x.h
                  clear S3 x0 x1 t0 t1 k0 k1 k2 q0 q1 HT3
                  generalize x.i = w4 at *
                  clear x w3
                  have x0 := S4.cell 3 (b := be) rfl (j := 0) (v := .int .i64 r0) rfl
                  have x1 := S4.cell 3 (b := be) rfl (j := 1) (v := .int .i64 c0) rfl
                  go_wp2_with fail
                  refine wp_region_tailq 6 (by kernel_rfl) (by kernel_rfl) ?_
                  simp only [List.take_succ_cons, List.take_zero, List.drop_succ_cons, List.drop_zero]
                  repeat (go_big_quiet_step (fail))
                  refine wpQuiet_nil ?_
                  have S5 := S4.drew
                  clear S4 x0 x1
                  generalize w4.drew = w5 at *
                  go_wp2_with (first
                    | (refine wpList_put rfl 4 _ _ (by rfl) bt c0 (by rfl) _ (by rfl) S5 2 (by rfl) (by rw [barr_size]; omega) size4 (by rfl) (by rfl) _ (barr_set _ (by omega)) ?_; intro w6 S6; clear S5; have x0 := S6.cell 3 (b := be) rfl (j := 0) (v := .int .i64 r0) rfl; have x1 := S6.cell 3 (b := be) rfl (j := 1) (v := .int .i64 c0) rfl)
                    | fail)
                  go_frame
                  have hT6 : Tab w6 tb m k (wt xs) := S6.at 1 rfl
                  have q1 := hT6.w r64 c64 rfl
                  have k0 := S6.lt 1 (b := tb) rfl
                  have k2 := S6.lt 3 (b := be) rfl
                  clear hT6
                  unfold MAXW at wb sb sb2
                  refine wp_region_bw w6.heap.size _ (Below.refl _ _) (by kernel_rfl) (by kernel_rfl) ?_
                  repeat (go_big_quiet_step (fail))
                  refine wpQuiet_nil ?_
                  intro x
                  have S7 := S6.up x.h
                  clear S6 x0 x1 k0 k2 q1
                  generalize x.i = w7 at *
                  clear x w6
                  go_wp2_with fail
                  go_roundg (n2 - j - 1)
                  case measure => have := HJ.out; omega
                  case rel =>
                    have e1 : lst ps (j + 1) = r0 := by show (pr ps j).r = _; rw [HX.out]
                    have e2 : sm (wt xs) ps (j + 1) = sm (wt xs) ps j + (wt xs) r0 c0 := by
                      show sm (wt xs) ps j + (wt xs) (pr ps j).r.toNat (pr ps j).c.toNat = _
                      rw [HX.out]; dsimp only; rw [Int.toNat_natCast, Int.toNat_natCast]
                    have e3 : tk ps (j + 1) = mark (tk ps j) c0 := by
                      show mark _ (pr ps j).c.toNat = _
                      rw [HX.out]; dsimp only; rw [Int.toNat_natCast]
                    refine ⟨j + 1, by have := HJ.out; omega, by go_num, by rw [e1], by rw [e2], fun i hi => ?_, by rw [e3]; exact Mem.pre [_, _, _] S7⟩
                    by_cases e : i = j
                    · subst e; exact HOK.out
                    · exact HV.out i (by omega)
    · obtain rfl : j = n2 := by omega
      clear hj hjn
      go_wp2_with fail
      go_ret2
      exact gives_of_eq (by rw [wres_yes (by rw [HL.out]; exact HV.out), HL.out]; rfl) S.below
end Go.Proofs.Ytikjelkehcnjmaa
