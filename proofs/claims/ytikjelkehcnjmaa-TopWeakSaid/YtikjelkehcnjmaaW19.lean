/- Top: pairs and gap, walked. -/
import Derived.Test.YtikjelkehcnjmaaW18
namespace Go.Proofs.Ytikjelkehcnjmaa
open Go.RowKit
set_option linter.unusedVariables false
set_option linter.unusedSimpArgs false
section
variable {w : World} {m k : Nat} {A : Option Addr} {n c : Nat} {A1 : Option Addr} {n1 c1 : Nat} {A2 : Option Addr} {n2 c2 : Nat} {A3 : Option Addr} {n3 c3 : Nat} {xs : List Ed} {ps : List Pr} {ys zs : List Int}
theorem wq_in (h : Gr m k xs) {r c : Int} (hw : wq xs r c ≠ 0) : 0 ≤ r ∧ 0 ≤ c ∧ r < m ∧ c < k ∧ wt xs r.toNat c.toNat ≠ 0 := by
  unfold wq at hw
  by_cases e : 0 ≤ r ∧ 0 ≤ c
  · rw [if_pos e] at hw
    have a := h.range r.toNat c.toNat
    have b := h.inside r.toNat c.toNat (by omega)
    exact ⟨e.1, e.2, by omega, by omega, hw⟩
  · rw [if_neg e] at hw; exact absurd rfl hw
theorem wq_nat {r c : Nat} : wq xs r c = wt xs r c := by
  unfold wq; rw [if_pos ⟨by omega, by omega⟩, Int.toNat_natCast, Int.toNat_natCast]
noncomputable def pav (m k : Nat) (xs : List Ed) (ps : List Pr) : Int := @ite _ (Vd m k (wt xs) ps ps.length) (Classical.propDecidable _) 0 180
theorem pav_yes (h : Vd m k (wt xs) ps ps.length) : pav m k xs ps = 0 := if_pos h
theorem pav_no (h : ¬ Vd m k (wt xs) ps ps.length) : pav m k xs ps = 180 := if_neg h
set_option maxRecDepth 20000 in
set_option maxHeartbeats 32000000 in
theorem pairs_ok (hR : Rd Ed.cells 3 w w.heap.size A n xs) (hG : Gr m k xs) (hP : Rd Pr.cells 2 w w.heap.size A1 n1 ps) (hn : n1 ≤ 9223372036854775807) :
    Calls Try.prog 20 #[.agg (clv m k A n c A1 n1 c1 A2 n2 c2 A3 n3 c3)] w (Gives (.int .i64 (pav m k xs ps)) w) := by
  have m64 : m ≤ 64 := by have := hG.1; unfold Sz at this; omega
  have k64 : k ≤ 64 := by have := hG.1; unfold Sz at this; omega
  have HR := Lib.hid hR
  have HG := Lib.hid hG
  have HP := Lib.hid hP
  have HL := Lib.hid hP.len
  clear hR hG hP
  have S0 := mem_zero w
  go_enter Try.func20, Try.ntmps20
  go_wp2_with (first
    | (refine wpList_boxnew rfl 59 _ (by rfl) _ (by rfl) (clv m k A n c A1 n1 c1 A2 n2 c2 A3 n3 c3) rfl S0 ?_; intro w1 bg S1; clear S0)
    | (refine wpList_new rfl 54 (by rfl) (barr 64 fun _ => false) 64 zero54 S1 ?_; intro w2 bt S2; clear S1; have g3 := S2.cell 0 (b := bg) rfl (j := 3) (v := .slice A1 n1 c1) rfl)
    | fail)
  clear g3
  go_loopg [4, 11] n1 (fun gk v4 v11 wr => ∃ j : Nat, gk + j = n1 ∧ v11 = .int .i64 j ∧ v4 = .int .i64 (lst ps j) ∧ Vd m k (wt xs) ps j ∧ Mem w wr [(bg, .cells (clv m k A n c A1 n1 c1 A2 n2 c2 A3 n3 c3) 59 (0, 0)), (bt, .cells (barr 64 (tk ps j)) 54 (0, 0))])
  case atStart => exact ⟨0, rfl, rfl, rfl, fun i hi => absurd hi (Nat.not_lt_zero _), S2⟩
  case round =>
    clear S2
    obtain ⟨j, hj, rfl, rfl, V, S⟩ := hrel
    have HV := Lib.hid V
    clear V
    by_cases hjn : j < n1
    · have HJ := Lib.hid hj
      have hx := pr_get (ps := ps) (i := j) (by rw [HL.out]; exact hjn)
      obtain ⟨ab, ao, rfl, hab, ra⟩ := (HP.out.below S.below).row hx
      clear hx hab hj
      have l0 := HV.out.lst0 j (Nat.le_refl _)
      obtain ⟨r, cc, hp⟩ : ∃ r cc, pr ps j = ⟨r, cc⟩ := ⟨_, _, rfl⟩
      rw [hp] at ra
      have HX := Lib.hid hp
      clear hp
      go_upto_region 6 with (first
        | (refine wpList_loadmid_g (by rfl) 50 _ (by rfl) ab (ao + j * 2) (by rfl) _ _ ra Try.underlying50 rfl size50 ?_; clear ra)
        | (refine wpList_new rfl 50 (by rfl) #[.int .i64 0, .int .i64 0] 2 zero50 S ?_; intro w2 be S2; clear S)
        | (refine wpList_putrow rfl 50 _ _ (by rfl) be (by rfl) (Pr.cells ⟨r, cc⟩).toArray (by rfl) S2 2 (by rfl) size50 (by rfl) (Pr.one _) ?_; intro w3 S3; clear S2)
        | fail)
      try go_frame
      have x0 := S3.cell 2 (b := be) rfl (j := 0) (v := .int .i64 r) rfl
      have x1 := S3.cell 2 (b := be) rfl (j := 1) (v := .int .i64 cc) rfl
      by_cases h1 : r ≤ lst ps j
      · have d1 : decide (r ≤ lst ps j) = true := decide_eq_true h1
        go_wp2_with fail
        go_ret
        refine gives_of_eq ?_ S3.below
        rw [pav_no (bad_at (j := j) (by rw [HL.out]; exact hjn) (fun h => by unfold OkP at h; rw [HX.out] at h; have := h.1; dsimp only at this; omega))]
        rfl
      · have d1 : decide (r ≤ lst ps j) = false := decide_eq_false h1
        go_wp2_with (first
          | (refine wpList_loadrow_g (by rfl) 59 _ (by rfl) bg (by rfl) _ _ _ (S3.at 0 rfl) Try.underlying59 rfl (by exact size59) ?_)
          | (refine wpList_loadrow_g (by rfl) 50 _ (by rfl) be (by rfl) _ _ _ (S3.at 2 rfl) Try.underlying50 rfl (by exact size50) ?_)
          | fail)
        refine (weight_ok ((HR.out.below S3.below).up S3.below.size) HG.out r cc).mono ?_
        rintro e w4 ⟨rfl, x, rfl⟩
        have S5 := S3.up x.h
        clear S3 x0 x1
        generalize x.i = w5 at *
        clear x w3
        have x0 := S5.cell 2 (b := be) rfl (j := 0) (v := .int .i64 r) rfl
        have x1 := S5.cell 2 (b := be) rfl (j := 1) (v := .int .i64 cc) rfl
        by_cases h2 : wq xs r cc = 0
        · have d2 : decide (wq xs r cc = 0) = true := decide_eq_true h2
          have e2 : (wq xs r cc == 0) = true := by rw [h2]; rfl
          have H2 := Lib.hid h2
          clear h2
          go_wp2_with fail
          go_ret
          refine gives_of_eq ?_ S5.below
          rw [pav_no (bad_at (j := j) (by rw [HL.out]; exact hjn) (fun h => by
            unfold OkP at h; rw [HX.out] at h
            dsimp only at h
            have q := H2.out
            unfold wq at q
            rw [if_pos ⟨by omega, h.2.2.1⟩] at q
            exact h.2.2.2.2.2 q))]
          rfl
        · have d2 : decide (wq xs r cc = 0) = false := decide_eq_false h2
          have e2 : (wq xs r cc == 0) = false := beq_false_of_ne h2
          have hin := wq_in HG.out h2
          have H2 := Lib.hid hin.2.2.2.2
          obtain ⟨r0, rfl⟩ : ∃ r0 : Nat, r = r0 := ⟨r.toNat, by omega⟩
          obtain ⟨c0, rfl⟩ : ∃ c0 : Nat, cc = c0 := ⟨cc.toNat, by omega⟩
          have r64 : r0 < 64 := by omega
          have c64 : c0 < 64 := by omega
          have HIN := Lib.hid hin
          have q0 := S5.bcell 1 (b := bt) rfl (j := c0) c64
          clear h2 hin
          cases hT : tk ps j c0 with
          | true =>
            rw [hT] at q0
            have HTK := Lib.hid hT
            clear hT
            go_wp2_with fail
            go_ret
            refine gives_of_eq ?_ S5.below
            rw [pav_no (bad_at (j := j) (by rw [HL.out]; exact hjn) (fun h => by
              unfold OkP at h; rw [HX.out] at h
              have := h.2.2.2.2.1
              dsimp only at this
              rw [Int.toNat_natCast, HTK.out] at this
              cases this))]
            rfl
          | false =>
            rw [hT] at q0
            have HTK := Lib.hid hT
            clear hT
            go_wp2_with (first
              | (refine wpList_put rfl 4 _ _ (by rfl) bt c0 (by rfl) _ (by rfl) S5 1 (by rfl) (by rw [barr_size]; omega) size4 (by rfl) (by rfl) _ (barr_set _ (by omega)) ?_; intro w6 S6; clear S5; have x0 := S6.cell 2 (b := be) rfl (j := 0) (v := .int .i64 r0) rfl)
              | fail)
            go_roundg (n1 - j - 1)
            case measure => have := HJ.out; omega
            case rel =>
              have e1 : lst ps (j + 1) = r0 := by show (pr ps j).r = _; rw [HX.out]
              have e3 : tk ps (j + 1) = mark (tk ps j) c0 := by
                show mark _ (pr ps j).c.toNat = _
                rw [HX.out]; dsimp only; rw [Int.toNat_natCast]
              refine ⟨j + 1, by omega, by go_num, by rw [e1], fun i hi => ?_, by rw [e3]; exact Mem.pre [_, _] S6⟩
              by_cases e : i = j
              · subst e
                have q := HIN.out
                have q2 := H2.out
                unfold OkP
                rw [HX.out]
                dsimp only
                rw [Int.toNat_natCast, Int.toNat_natCast] at q2
                rw [Int.toNat_natCast, Int.toNat_natCast]
                exact ⟨by omega, by omega, by omega, by omega, HTK.out, q2⟩
              · exact HV.out i (by omega)
    · obtain rfl : j = n1 := by omega
      clear hj hjn
      go_wp2_with fail
      go_ret
      exact gives_of_eq (by rw [pav_yes (by rw [HL.out]; exact HV.out)]; rfl) S.below
def gapv (T s : Int) : Int := if T ≤ 4611686018427387903 ∧ T = s then 0 else 182
set_option maxRecDepth 20000 in
set_option maxHeartbeats 32000000 in
theorem gap_ok (hR : Rd Ed.cells 3 w w.heap.size A n xs) (hG : Gr m k xs) (hP : Rd Pr.cells 2 w w.heap.size A1 n1 ps) (hV : Vd m k (wt xs) ps ps.length) (hY : Rd iint 1 w w.heap.size A2 n2 ys) (hZ : Rd iint 1 w w.heap.size A3 n3 zs) (h2 : n2 ≤ 64) (h3 : n3 ≤ 64) (y0 : ∀ i, i < n2 → 0 ≤ iy ys i) (z0 : ∀ i, i < n3 → 0 ≤ iy zs i) :
    Calls Try.prog 23 #[.agg (clv m k A n c A1 n1 c1 A2 n2 c2 A3 n3 c3)] w (Gives (.int .i64 (gapv (gtot ys zs) (sm (wt xs) ps ps.length))) w) := by
  have m64 : m ≤ 64 := by have := hG.1; unfold Sz at this; omega
  have n64 : n1 ≤ 64 := by have := hV.le; rw [hP.len] at this; omega
  have HR := Lib.hid hR
  have HG := Lib.hid hG
  have HP := Lib.hid hP
  have HL := Lib.hid hP.len
  have HV := Lib.hid hV
  have HY := Lib.hid hY
  have HZ := Lib.hid hZ
  have HY0 := Lib.hid y0
  have HZ0 := Lib.hid z0
  clear hR hG hP hV hY hZ y0 z0
  have S0 := mem_zero w
  go_enter Try.func23, Try.ntmps23
  go_wp2_with (first
    | (refine wpList_boxnew rfl 59 _ (by rfl) _ (by rfl) (clv m k A n c A1 n1 c1 A2 n2 c2 A3 n3 c3) rfl S0 ?_; intro w1 bg S1; clear S0; have g3 := S1.cell 0 (b := bg) rfl (j := 3) (v := .slice A1 n1 c1) rfl)
    | fail)
  clear g3
  go_loopg [3, 12] n1 (fun gk v3 v12 wr => ∃ j : Nat, gk + j = n1 ∧ v12 = .int .i64 j ∧ v3 = .int .i64 (sm (wt xs) ps j) ∧ Mem w wr [(bg, .cells (clv m k A n c A1 n1 c1 A2 n2 c2 A3 n3 c3) 59 (0, 0))])
  case atStart => exact ⟨0, rfl, rfl, rfl, S1⟩
  case round =>
    clear S1
    obtain ⟨j, hj, rfl, rfl, S⟩ := hrel
    by_cases hjn : j < n1
    · have HJ := Lib.hid hj
      have hx := pr_get (ps := ps) (i := j) (by rw [HL.out]; exact hjn)
      have hok := HV.out j (by rw [HL.out]; exact hjn)
      have l0 := HV.out.lst0 j (by rw [HL.out]; omega)
      obtain ⟨ab, ao, rfl, hab, ra⟩ := (HP.out.below S.below).row hx
      clear hx hab hj
      obtain ⟨r, cc, hp⟩ : ∃ r cc, pr ps j = ⟨r, cc⟩ := ⟨_, _, rfl⟩
      unfold OkP at hok
      rw [hp] at ra hok
      dsimp only at hok
      have HX := Lib.hid hp
      obtain ⟨r0, rfl⟩ : ∃ r0 : Nat, r = r0 := ⟨r.toNat, by omega⟩
      obtain ⟨c0, rfl⟩ : ∃ c0 : Nat, cc = c0 := ⟨cc.toNat, by omega⟩
      have sb := sm_bd HG.out.range ps j
      have sb2 : (j : Int) * MAXW ≤ 64 * MAXW := Int.mul_le_mul_of_nonneg_right (by omega) (by decide)
      have wb := HG.out.range r0 c0
      unfold MAXW at sb sb2 wb
      clear hp hok l0
      go_wp2_with (first
        | (refine wpList_loadmid_g (by rfl) 50 _ (by rfl) ab (ao + j * 2) (by rfl) _ _ ra Try.underlying50 rfl size50 ?_; clear ra)
        | (refine wpList_new rfl 50 (by rfl) #[.int .i64 0, .int .i64 0] 2 zero50 S ?_; intro w2 be S2; clear S)
        | (refine wpList_putrow rfl 50 _ _ (by rfl) be (by rfl) (Pr.cells ⟨r0, c0⟩).toArray (by rfl) S2 1 (by rfl) size50 (by rfl) (Pr.one _) ?_; intro w3 S3; clear S2)
        | (refine wpList_getrow rfl 59 _ (by rfl) bg (by rfl) S3 0 (by rfl) _ Try.underlying59 rfl (by exact size59) ?_)
        | (refine wpList_getrow rfl 50 _ (by rfl) be (by rfl) S3 1 (by rfl) _ Try.underlying50 rfl (by exact size50) ?_)
        | fail)
      refine (weight_ok ((HR.out.below S3.below).up S3.below.size) HG.out r0 c0).mono ?_
      rintro e w4 ⟨rfl, x, rfl⟩
      have S5 := S3.up x.h
      clear S3
      generalize x.i = w5 at *
      clear x w3
      rw [wq_nat]
      go_wp2_with fail
      go_roundg (n1 - j - 1)
      case measure => have := HJ.out; omega
      case rel =>
        have e2 : sm (wt xs) ps (j + 1) = sm (wt xs) ps j + wt xs r0 c0 := by
          show sm (wt xs) ps j + wt xs (pr ps j).r.toNat (pr ps j).c.toNat = _
          rw [HX.out]; dsimp only; rw [Int.toNat_natCast, Int.toNat_natCast]
        exact ⟨j + 1, by omega, by go_num, by rw [e2], Mem.pre [_] S5⟩
    · obtain rfl : j = n1 := by omega
      clear hj hjn
      go_wp2_with (refine wpList_getrow rfl 59 _ (by rfl) bg (by rfl) S 0 (by rfl) _ Try.underlying59 rfl (by exact size59) ?_)
      refine (sum_ok ((HY.out.below S.below).up S.below.size) ((HZ.out.below S.below).up S.below.size) h2 h3 HY0.out HZ0.out).mono ?_
      rintro e w4 ⟨rfl, x, rfl⟩
      have S5 := S.up x.h
      clear S
      generalize x.i = w5 at *
      clear x wr
      have HE := Lib.hid (show sm (wt xs) ps ps.length = sm (wt xs) ps j by rw [HL.out])
      generalize gtot ys zs = T at *
      by_cases t1 : T ≤ 4611686018427387903
      · have es : sumv T = .tuple #[.int .i64 T, .bool true] := if_pos t1
        rw [es]
        clear es
        by_cases t2 : T = sm (wt xs) ps j
        · have d2 : decide (T = sm (wt xs) ps j) = true := decide_eq_true t2
          have e2 : (T != sm (wt xs) ps j) = false := by rw [t2]; simp
          have e3 : (T == sm (wt xs) ps j) = true := by rw [t2]; exact beq_self_eq_true _
          have H2 := Lib.hid t2
          clear t2
          go_wp2_with fail
          go_ret
          refine gives_of_eq ?_ S5.below
          unfold gapv
          rw [if_pos ⟨t1, H2.out.trans HE.out.symm⟩]
          rfl
        · have d2 : decide (T = sm (wt xs) ps j) = false := decide_eq_false t2
          have e2 : (T != sm (wt xs) ps j) = true := by simp [t2]
          have e3 : (T == sm (wt xs) ps j) = false := beq_false_of_ne t2
          have H2 := Lib.hid t2
          clear t2
          go_wp2_with fail
          go_ret
          refine gives_of_eq ?_ S5.below
          unfold gapv
          rw [if_neg fun h => H2.out (h.2.trans HE.out)]
          rfl
      · have es : sumv T = .tuple #[.int .i64 0, .bool false] := if_neg t1
        rw [es]
        clear es
        go_wp2_with fail
        go_ret
        refine gives_of_eq ?_ S5.below
        unfold gapv
        rw [if_neg fun h => absurd h.1 (by omega)]
        rfl
end
end Go.Proofs.Ytikjelkehcnjmaa
