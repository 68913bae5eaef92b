/- Top: weigh.Check, walked: it answers 0 where the graph may be, 170 else. -/
import Derived.Test.YtikjelkehcnjmaaW5
namespace Go.Proofs.Ytikjelkehcnjmaa
open Go.RowKit
set_option linter.unusedVariables false
set_option linter.unusedSimpArgs false
set_option maxRecDepth 20000 in
set_option maxHeartbeats 32000000 in
theorem check_ok {w : World} {rows cols : Int} {A : Option Addr} {n c : Nat} {xs : List Ed} (hR : Rd Ed.cells 3 w w.heap.size A n xs) (hn : n ≤ 9223372036854775807) :
    Calls Try.prog 12 #[.agg (gv rows cols A n c)] w (Gives (.int .i64 (chk rows cols xs)) w) := by
  have HR := Lib.hid hR
  have HL := Lib.hid hR.len
  clear hR
  have S0 := mem_zero w
  go_enter Try.func12, Try.ntmps12
  go_wp2_with (first
    | (refine wpList_boxnew rfl 24 _ (by rfl) _ (by rfl) (gv rows cols A n c) rfl S0 ?_; intro w1 bg S1; clear S0; have g0 := S1.cell 0 (b := bg) rfl (j := 0) (v := .int .i64 rows) rfl; have g1 := S1.cell 0 (b := bg) rfl (j := 1) (v := .int .i64 cols) rfl)
    | fail)
  go_step3
  go_upto_region 1 with fail
  obtain ⟨b0, hb0⟩ : ∃ b0 : Bool, b0 = true ↔ ¬ Sz rows cols := by
    by_cases h : Sz rows cols
    · exact ⟨false, by simp [h]⟩
    · exact ⟨true, by simp [h]⟩
  have HB := Lib.hid hb0
  clear hb0
  go_cut [3] (fun s3 wx => s3 = .bool b0 ∧ Mem w wx [(bg, .cells (gv rows cols A n c) 24 (0, 0))])
  case first =>
    have bad : ¬ Sz rows cols → b0 = true := HB.out.2
    have good : Sz rows cols → b0 = false := fun h => by
      cases e : b0 with
      | false => rfl
      | true => exact absurd h (HB.out.1 e)
    unfold Sz at bad good
    have HBD := Lib.hid bad
    have HGD := Lib.hid good
    clear bad good
    by_cases h1 : rows < 0
    · have e : b0 = true := HBD.out (by omega)
      have d1 : decide (rows < 0) = true := decide_eq_true h1
      have HE := Lib.hid e
      clear e
      go_wp2_with fail
      go_meet
      exact ⟨by rw [HE.out], S1⟩
    · have d1 : decide (rows < 0) = false := decide_eq_false h1
      by_cases h2 : 64 < rows
      · have e : b0 = true := HBD.out (by omega)
        have d2 : decide (64 < rows) = true := decide_eq_true h2
        have HE := Lib.hid e
        clear e
        go_wp2_with fail
        go_meet
        exact ⟨by rw [HE.out], S1⟩
      · have d2 : decide (64 < rows) = false := decide_eq_false h2
        by_cases h3 : cols < 0
        · have e : b0 = true := HBD.out (by omega)
          have d3 : decide (cols < 0) = true := decide_eq_true h3
          have HE := Lib.hid e
          clear e
          go_wp2_with fail
          go_meet
          exact ⟨by rw [HE.out], S1⟩
        · have d3 : decide (cols < 0) = false := decide_eq_false h3
          by_cases h4 : 64 < cols
          · have e : b0 = true := HBD.out (by omega)
            have d4 : decide (64 < cols) = true := decide_eq_true h4
            have HE := Lib.hid e
            clear e
            go_wp2_with fail
            go_meet
            exact ⟨by rw [HE.out], S1⟩
          · have e : b0 = false := HGD.out (by omega)
            have d4 : decide (64 < cols) = false := decide_eq_false h4
            have HE := Lib.hid e
            clear e
            go_wp2_with fail
            go_meet
            exact ⟨by rw [HE.out], S1⟩
  case rest =>
    clear S1 g0 g1
    obtain ⟨rfl, S1⟩ := hcut
    have g2 := S1.cell 0 (b := bg) rfl (j := 2) (v := .slice A n c) rfl
    go_wp2_with (first
      | (refine wpList_new rfl 52 (by rfl) #[.int .i64 0, .int .i64 0, .int .i64 0] 3 zero52 S1 ?_; intro w2 bl S2; clear S1 g2)
      | (refine wpList_putrow rfl 52 _ _ (by rfl) bl (by rfl) (E0.cells.toArray) (by rfl) S2 1 (by rfl) size52 (by rfl) (Ed.one _) ?_; intro w3 S3; clear S2; have g2 := S3.cell 0 (b := bg) rfl (j := 2) (v := .slice A n c) rfl)
      | fail)
    go_frame
    go_step3
    simp only [Exit.then]
    go_wp2_with fail
    go_loopg [3, 29] n (fun gk v3 v29 wr => ∃ j : Nat, gk + j = n ∧ v29 = .int .i64 j ∧ v3 = .bool b0 ∧ OkTo rows cols xs j ∧ Mem w wr [(bg, .cells (gv rows cols A n c) 24 (0, 0)), (bl, .cells (prv xs j).cells.toArray 52 (0, 0))])
    case atStart => exact ⟨0, rfl, rfl, rfl, fun i hi => absurd hi (by omega), S3⟩
    case round =>
      clear S3
      obtain ⟨j, hj, rfl, rfl, O, S⟩ := hrel
      have HO := Lib.hid O
      clear O
      by_cases hjn : j < n
      · have hx := ed_get (xs := xs) (i := j) (by rw [HL.out]; exact hjn)
        obtain ⟨ab, ao, rfl, hab, ra⟩ := (HR.out.below S.below).row hx
        clear hx hab
        obtain ⟨x, hx⟩ : ∃ x, x = ed xs j := ⟨_, rfl⟩
        rw [← hx] at ra
        obtain ⟨l, hl⟩ : ∃ l, l = prv xs j := ⟨_, rfl⟩
        rw [← hl] at S
        have HX := Lib.hid (And.intro hx hl)
        clear hx hl
        go_upto_block 2 with (first
          | (refine wpList_loadmid_g (by rfl) 52 _ (by rfl) ab (ao + j * 3) (by rfl) x.cells _ ra Try.underlying52 rfl size52 ?_; clear ra)
          | (refine wpList_new rfl 52 (by rfl) #[.int .i64 0, .int .i64 0, .int .i64 0] 3 zero52 S ?_; intro w2 be S2; clear S)
          | (refine wpList_putrow rfl 52 _ _ (by rfl) be (by rfl) x.cells.toArray (by rfl) S2 2 (by rfl) size52 (by rfl) (Ed.one _) ?_; intro w3 S3; clear S2)
          | fail)
        have g0 := S3.cell 0 (b := bg) rfl (j := 0) (v := .int .i64 rows) rfl
        have g1 := S3.cell 0 (b := bg) rfl (j := 1) (v := .int .i64 cols) rfl
        have l0 := S3.cell 1 (b := bl) rfl (j := 0) (v := .int .i64 l.r) rfl
        have l1 := S3.cell 1 (b := bl) rfl (j := 1) (v := .int .i64 l.c) rfl
        have x0 := S3.cell 2 (b := be) rfl (j := 0) (v := .int .i64 x.r) rfl
        have x1 := S3.cell 2 (b := be) rfl (j := 1) (v := .int .i64 x.c) rfl
        have x2 := S3.cell 2 (b := be) rfl (j := 2) (v := .int .i64 x.w) rfl
        have HJ := Lib.hid (And.intro hj hjn)
        have hj9 : j < 9223372036854775807 := by omega
        clear hj hjn
        by_cases h0 : x.r < 0
        · skip
          go_wp2_with fail
          try rw [Exit.noGoto_ret]
          go_ret
          refine gives_of_eq ?_ S3.below
          rw [chk_no]
          · rfl
          intro h
          have h1 := h.2 j (by rw [HL.out]; exact HJ.out.2)
          rw [← HX.out.1, ← HX.out.2] at h1
          unfold InB Aft at h1
          omega
        · skip
          by_cases h1 : rows ≤ x.r
          · skip
            go_wp2_with fail
            try rw [Exit.noGoto_ret]
            go_ret
            refine gives_of_eq ?_ S3.below
            rw [chk_no]
            · rfl
            intro h
            have h1 := h.2 j (by rw [HL.out]; exact HJ.out.2)
            rw [← HX.out.1, ← HX.out.2] at h1
            unfold InB Aft at h1
            omega
          · skip
            by_cases h2 : x.c < 0
            · skip
              go_wp2_with fail
              try rw [Exit.noGoto_ret]
              go_ret
              refine gives_of_eq ?_ S3.below
              rw [chk_no]
              · rfl
              intro h
              have h1 := h.2 j (by rw [HL.out]; exact HJ.out.2)
              rw [← HX.out.1, ← HX.out.2] at h1
              unfold InB Aft at h1
              omega
            · skip
              by_cases h3 : cols ≤ x.c
              · skip
                go_wp2_with fail
                try rw [Exit.noGoto_ret]
                go_ret
                refine gives_of_eq ?_ S3.below
                rw [chk_no]
                · rfl
                intro h
                have h1 := h.2 j (by rw [HL.out]; exact HJ.out.2)
                rw [← HX.out.1, ← HX.out.2] at h1
                unfold InB Aft at h1
                omega
              · skip
                by_cases h4 : x.w < 1
                · skip
                  go_wp2_with fail
                  try rw [Exit.noGoto_ret]
                  go_ret
                  refine gives_of_eq ?_ S3.below
                  rw [chk_no]
                  · rfl
                  intro h
                  have h1 := h.2 j (by rw [HL.out]; exact HJ.out.2)
                  rw [← HX.out.1, ← HX.out.2] at h1
                  unfold InB Aft at h1
                  omega
                · skip
                  by_cases h5 : 1099513724929 < x.w
                  · skip
                    go_wp2_with fail
                    try rw [Exit.noGoto_ret]
                    go_ret
                    refine gives_of_eq ?_ S3.below
                    rw [chk_no]
                    · rfl
                    intro h
                    have h1 := h.2 j (by rw [HL.out]; exact HJ.out.2)
                    rw [← HX.out.1, ← HX.out.2] at h1
                    unfold InB Aft at h1
                    omega
                  · skip
                    by_cases h6 : x.r < l.r
                    · skip
                      go_wp2_with fail
                      try rw [Exit.noGoto_ret]
                      go_ret
                      refine gives_of_eq ?_ S3.below
                      rw [chk_no]
                      · rfl
                      intro h
                      have h1 := h.2 j (by rw [HL.out]; exact HJ.out.2)
                      rw [← HX.out.1, ← HX.out.2] at h1
                      unfold InB Aft at h1
                      omega
                    · skip
                      by_cases h7 : x.r = l.r
                      · have e7 : (x.r == l.r) = true := by rw [h7]; exact beq_self_eq_true _
                        have d7 : decide (x.r = l.r) = true := decide_eq_true h7
                        have H7 := Lib.hid h7
                        have n7 : ¬ x.r < l.r := by omega
                        clear h7
                        by_cases h8 : x.c ≤ l.c
                        · have d8 : decide (x.c ≤ l.c) = true := decide_eq_true h8
                          go_wp2_with fail
                          try rw [Exit.noGoto_ret]
                          go_ret
                          refine gives_of_eq ?_ S3.below
                          rw [chk_no]
                          · rfl
                          intro h
                          have h1 := h.2 j (by rw [HL.out]; exact HJ.out.2)
                          rw [← HX.out.1, ← HX.out.2] at h1
                          unfold InB Aft at h1
                          have := H7.out
                          omega
                        · have d8 : decide (x.c ≤ l.c) = false := decide_eq_false h8
                          go_wp2_with (first
                            | (refine wpList_getrow rfl 52 _ (by rfl) be (by rfl) S3 2 (by rfl) _ Try.underlying52 rfl size52 ?_)
                            | (refine wpList_putrow rfl 52 _ _ (by rfl) bl (by rfl) x.cells.toArray (by rfl) S3 1 (by rfl) size52 (by rfl) (Ed.one _) ?_; intro w4 S4)
                            | fail)
                          go_roundg (n - j - 1)
                          case measure => have := HJ.out; omega
                          case rel =>
                            have hok : OkTo rows cols xs (j + 1) := fun i hi => by
                              by_cases e : i = j
                              · subst e
                                rw [← HX.out.1, ← HX.out.2]
                                unfold InB Aft
                                have := H7.out
                                omega
                              · exact HO.out i (by omega)
                            refine ⟨j + 1, by have := HJ.out; omega, by go_num, rfl, hok, ?_⟩
                            show Mem w w4 [_, (bl, .cells (ed xs j).cells.toArray 52 (0, 0))]
                            rw [← HX.out.1]
                            exact Mem.pre [_, _] S4
                      · have e7 : (x.r == l.r) = false := beq_false_of_ne h7
                        have d7 : decide (x.r = l.r) = false := decide_eq_false h7
                        go_wp2_with (first
                          | (refine wpList_getrow rfl 52 _ (by rfl) be (by rfl) S3 2 (by rfl) _ Try.underlying52 rfl size52 ?_)
                          | (refine wpList_putrow rfl 52 _ _ (by rfl) bl (by rfl) x.cells.toArray (by rfl) S3 1 (by rfl) size52 (by rfl) (Ed.one _) ?_; intro w4 S4)
                          | fail)
                        go_roundg (n - j - 1)
                        case measure => have := HJ.out; omega
                        case rel =>
                          have hok : OkTo rows cols xs (j + 1) := fun i hi => by
                            by_cases e : i = j
                            · subst e
                              rw [← HX.out.1, ← HX.out.2]
                              unfold InB Aft
                              omega
                            · exact HO.out i (by omega)
                          refine ⟨j + 1, by have := HJ.out; omega, by go_num, rfl, hok, ?_⟩
                          show Mem w w4 [_, (bl, .cells (ed xs j).cells.toArray 52 (0, 0))]
                          rw [← HX.out.1]
                          exact Mem.pre [_, _] S4
      · obtain rfl : j = n := by omega
        clear hj hjn
        cases hb : b0 with
        | true =>
          have HBT := Lib.hid hb
          go_wp2_with fail
          rw [Exit.noGoto_ret]
          go_ret
          exact gives_of_eq (by rw [chk_no fun h => HB.out.1 HBT.out h.1]; rfl) S.below
        | false =>
          have HBF := Lib.hid hb
          go_wp2_with fail
          rw [Exit.noGoto_ret]
          go_ret
          exact gives_of_eq (by rw [chk_ok ⟨Classical.byContradiction fun h => absurd (HBF.out.symm.trans (HB.out.2 h)) (by decide), (by rw [HL.out]; exact HO.out)⟩]; rfl) S.below
end Go.Proofs.Ytikjelkehcnjmaa
