/- Top: weight, walked: an edge's weight, by halving. -/
import Derived.Test.YtikjelkehcnjmaaW15
namespace Go.Proofs.Ytikjelkehcnjmaa
open Go.RowKit
set_option linter.unusedVariables false
set_option linter.unusedSimpArgs false
/-- a claim, as it is handed on -/
def clv (rows cols : Int) (A : Option Addr) (n c : Nat) (A1 : Option Addr) (n1 c1 : Nat) (A2 : Option Addr) (n2 c2 : Nat) (A3 : Option Addr) (n3 c3 : Nat) : Array Value := #[.int .i64 rows, .int .i64 cols, .slice A n c, .slice A1 n1 c1, .slice A2 n2 c2, .slice A3 n3 c3]
def wq (xs : List Ed) (r c : Int) : Int := if 0 ≤ r ∧ 0 ≤ c then wt xs r.toNat c.toNat else 0
def Lt2 (x : Ed) (r c : Int) : Prop := x.r < r ∨ (x.r = r ∧ x.c < c)
theorem wq_hit {rows cols : Int} {xs : List Ed} (h : Gr rows cols xs) {i : Nat} (hi : i < xs.length) : wq xs (ed xs i).r (ed xs i).c = (ed xs i).w := by
  have b := (h.2 i hi).1
  unfold InB at b
  unfold wq
  rw [if_pos ⟨by omega, by omega⟩]
  exact h.edge hi ⟨by omega, by omega⟩
theorem wq_miss {rows cols : Int} {xs : List Ed} (h : Gr rows cols xs) {r c : Int} (hn : ∀ i, i < xs.length → ¬ ((ed xs i).r = r ∧ (ed xs i).c = c)) : wq xs r c = 0 := by
  unfold wq
  by_cases e : 0 ≤ r ∧ 0 ≤ c
  · rw [if_pos e]
    rcases h.some r.toNat c.toNat with h1 | ⟨i, h1, h2, h3, h4⟩
    · exact h1
    · exact absurd ⟨by omega, by omega⟩ (hn i h1)
  · rw [if_neg e]
theorem wq_end {rows cols : Int} {xs : List Ed} (h : Gr rows cols xs) {r c : Int} {l : Nat} (h1 : ∀ i, i < l → Lt2 (ed xs i) r c) (h2 : ∀ i, l ≤ i → i < xs.length → ¬ Lt2 (ed xs i) r c) (h3 : ¬ (l < xs.length ∧ (ed xs l).r = r ∧ (ed xs l).c = c)) : wq xs r c = 0 := by
  refine wq_miss h fun i hi e => ?_
  by_cases a : i < l
  · have := h1 i a
    unfold Lt2 at this
    omega
  · by_cases b : i = l
    · subst b; exact h3 ⟨hi, e⟩
    · have q := h.2.lt' (i := l) (k := i) (by omega) hi
      have n := h2 l (Nat.le_refl _) (by omega)
      unfold Lt2 at n
      have := h3
      by_cases z : (ed xs i).r = (ed xs l).r
      · have := q.2 z; omega
      · omega
set_option maxRecDepth 20000 in
set_option maxHeartbeats 32000000 in
theorem weight_ok {w : World} {rows cols : Int} {A : Option Addr} {n c : Nat} {xs : List Ed} {A1 : Option Addr} {n1 c1 : Nat} {A2 : Option Addr} {n2 c2 : Nat} {A3 : Option Addr} {n3 c3 : Nat} (hR : Rd Ed.cells 3 w w.heap.size A n xs) (hG : Gr rows cols xs) (r cc : Int) :
    Calls Try.prog 29 #[.agg (clv rows cols A n c A1 n1 c1 A2 n2 c2 A3 n3 c3), .agg (Pr.cells ⟨r, cc⟩).toArray] w (Gives (.int .i64 (wq xs r cc)) w) := by
  have HR := Lib.hid hR
  have HL := Lib.hid hR.len
  have HG := Lib.hid hG
  have n4 : n ≤ 4096 := by rw [← hR.len]; exact hG.len
  clear hR hG
  have S0 := mem_zero w
  go_enter Try.func29, Try.ntmps29
  go_wp2_with (first
    | (refine wpList_boxnew rfl 59 _ (by rfl) _ (by rfl) (clv rows cols A n c A1 n1 c1 A2 n2 c2 A3 n3 c3) rfl S0 ?_; intro w1 bg S1; clear S0)
    | (refine wpList_boxnew rfl 50 _ (by rfl) _ (by rfl) (Pr.cells ⟨r, cc⟩).toArray rfl S1 ?_; intro w2 bp S2; clear S1)
    | fail)
  have g2 := S2.cell 0 (b := bg) rfl (j := 2) (v := .slice A n c) rfl
  have k0 := S2.lt 0 (b := bg) rfl
  refine wp_region_bw w2.heap.size _ (Below.refl _ _) (by kernel_rfl) (by kernel_rfl) ?_
  repeat (go_big_quiet_step (fail))
  refine wpQuiet_nil ?_
  intro x
  have S3 := S2.up x.h
  clear S2 g2 k0
  generalize x.i = w3 at *
  clear x w2
  go_wp2_with fail
  go_loopg [5, 6] n (fun gk v5 v6 wr => ∃ l h : Nat, h - l ≤ gk ∧ l ≤ h ∧ h ≤ n ∧ v5 = .int .i64 l ∧ v6 = .int .i64 h ∧ (∀ i, i < l → Lt2 (ed xs i) r cc) ∧ (∀ i, h ≤ i → i < n → ¬ Lt2 (ed xs i) r cc) ∧ Mem w wr [(bg, .cells (clv rows cols A n c A1 n1 c1 A2 n2 c2 A3 n3 c3) 59 (0, 0)), (bp, .cells (Pr.cells ⟨r, cc⟩).toArray 50 (0, 0))])
  case atStart => exact ⟨0, n, Nat.le_refl _, Nat.zero_le _, Nat.le_refl _, rfl, rfl, fun i hi => absurd hi (Nat.not_lt_zero _), fun i h1 h2 => absurd h2 (by omega), S3⟩
  case round =>
    clear S3
    obtain ⟨l, h, hg, hlh, hhn, rfl, rfl, I1, I2, S⟩ := hrel
    have H1 := Lib.hid I1
    have H2 := Lib.hid I2
    clear I1 I2
    have g2 := S.cell 0 (b := bg) rfl (j := 2) (v := .slice A n c) rfl
    by_cases hl : l < h
    · obtain ⟨mid, hmid⟩ : ∃ mid : Nat, ((l : Int) + h) / 2 = mid := ⟨(l + h) / 2, by omega⟩
      have m1 : l ≤ mid := by omega
      have m2 : mid < h := by omega
      have m3 : mid < n := by omega
      have hx := ed_get (xs := xs) (i := mid) (by rw [HL.out]; exact m3)
      obtain ⟨ab, ao, rfl, hab, ra⟩ := (HR.out.below S.below).row hx
      clear hx hab
      obtain ⟨er, ec, ew, hp⟩ : ∃ er ec ew, ed xs mid = ⟨er, ec, ew⟩ := ⟨_, _, _, rfl⟩
      rw [hp] at ra
      have HX := Lib.hid hp
      clear hp
      go_upto_region 5 with (first
        | (refine wpList_loadmid_g (by rfl) 52 _ (by rfl) ab (ao + mid * 3) (by rfl) _ _ ra Try.underlying52 rfl size52 ?_; clear ra)
        | (refine wpList_new rfl 52 (by rfl) #[.int .i64 0, .int .i64 0, .int .i64 0] 3 zero52 S ?_; intro w4 be S4; clear S)
        | (refine wpList_putrow rfl 52 _ _ (by rfl) be (by rfl) (Ed.cells ⟨er, ec, ew⟩).toArray (by rfl) S4 2 (by rfl) size52 (by rfl) (Ed.one _) ?_; intro w5 S5; clear S4)
        | fail)
      clear g2
      have HM := Lib.hid hmid
      clear hmid
      try go_frame
      have x0 := S5.cell 2 (b := be) rfl (j := 0) (v := .int .i64 er) rfl
      have x1 := S5.cell 2 (b := be) rfl (j := 1) (v := .int .i64 ec) rfl
      have p0 := S5.cell 1 (b := bp) rfl (j := 0) (v := .int .i64 r) rfl
      have p1 := S5.cell 1 (b := bp) rfl (j := 1) (v := .int .i64 cc) rfl
      by_cases c1 : er < r
      · have d1 : decide (er < r) = true := decide_eq_true c1
        go_wp2_with fail
        go_roundg (h - mid - 1)
        case measure => omega
        case rel =>
          refine ⟨mid + 1, h, by omega, by omega, hhn, (by rw [HM.out]; go_num), rfl, fun i hi => ?_, H2.out, Mem.pre [_, _] S5⟩
          by_cases z : i = mid
          · subst z
            rw [HX.out]
            unfold Lt2
            skip
            dsimp only
            omega
          · by_cases z2 : i < l
            · exact H1.out i z2
            · have q := HG.out.2.lt' (i := i) (k := mid) (by omega) (by rw [HL.out]; exact m3)
              rw [HX.out] at q
              unfold Lt2
              skip
              dsimp only at q
              by_cases z3 : (ed xs i).r = er
              · have := q.2 z3.symm; omega
              · omega
      · have d1 : decide (er < r) = false := decide_eq_false c1
        by_cases c2 : er = r
        · have d2 : decide (er = r) = true := decide_eq_true c2
          have e2 : (er == r) = true := by rw [c2]; exact beq_self_eq_true _
          have HC2 := Lib.hid c2
          clear c2
          by_cases c3 : ec < cc
          · have d3 : decide (ec < cc) = true := decide_eq_true c3
            go_wp2_with fail
            go_roundg (h - mid - 1)
            case measure => omega
            case rel =>
              refine ⟨mid + 1, h, by omega, by omega, hhn, (by rw [HM.out]; go_num), rfl, fun i hi => ?_, H2.out, Mem.pre [_, _] S5⟩
              by_cases z : i = mid
              · subst z
                rw [HX.out]
                unfold Lt2
                have := HC2.out
                dsimp only
                omega
              · by_cases z2 : i < l
                · exact H1.out i z2
                · have q := HG.out.2.lt' (i := i) (k := mid) (by omega) (by rw [HL.out]; exact m3)
                  rw [HX.out] at q
                  unfold Lt2
                  have := HC2.out
                  dsimp only at q
                  by_cases z3 : (ed xs i).r = er
                  · have := q.2 z3.symm; omega
                  · omega
          · have d3 : decide (ec < cc) = false := decide_eq_false c3
            go_wp2_with fail
            go_roundg (mid - l)
            case measure => omega
            case rel =>
              refine ⟨l, mid, by omega, by omega, by omega, rfl, (by rw [HM.out]), H1.out, fun i h1 h2 => ?_, Mem.pre [_, _] S5⟩
              by_cases z : i = mid
              · subst z
                rw [HX.out]
                unfold Lt2
                have := HC2.out
                dsimp only
                omega
              · by_cases z2 : h ≤ i
                · exact H2.out i z2 h2
                · have q := HG.out.2.lt' (i := mid) (k := i) (by omega) (by rw [HL.out]; exact h2)
                  rw [HX.out] at q
                  unfold Lt2
                  have := HC2.out
                  dsimp only at q
                  by_cases z3 : (ed xs i).r = er
                  · have := q.2 z3; omega
                  · omega
        · have d2 : decide (er = r) = false := decide_eq_false c2
          have e2 : (er == r) = false := beq_false_of_ne c2
          go_wp2_with fail
          go_roundg (mid - l)
          case measure => omega
          case rel =>
            refine ⟨l, mid, by omega, by omega, by omega, rfl, (by rw [HM.out]), H1.out, fun i h1 h2 => ?_, Mem.pre [_, _] S5⟩
            by_cases z : i = mid
            · subst z
              rw [HX.out]
              unfold Lt2
              skip
              dsimp only
              omega
            · by_cases z2 : h ≤ i
              · exact H2.out i z2 h2
              · have q := HG.out.2.lt' (i := mid) (k := i) (by omega) (by rw [HL.out]; exact h2)
                rw [HX.out] at q
                unfold Lt2
                skip
                dsimp only at q
                by_cases z3 : (ed xs i).r = er
                · have := q.2 z3; omega
                · omega
    · obtain rfl : l = h := by omega
      clear hg hlh hl
      go_wp2_with fail
      have p0 := S.cell 1 (b := bp) rfl (j := 0) (v := .int .i64 r) rfl
      have p1 := S.cell 1 (b := bp) rfl (j := 1) (v := .int .i64 cc) rfl
      have k0 := S.lt 0 (b := bg) rfl
      have k1 := S.lt 1 (b := bp) rfl
      by_cases hln : l < n
      · have hx := ed_get (xs := xs) (i := l) (by rw [HL.out]; exact hln)
        obtain ⟨ab, ao, rfl, hab, ra⟩ := (HR.out.below S.below).row hx
        have hab2 : ab < wr.heap.size := Nat.lt_of_lt_of_le hab S.below.size
        clear hx hab
        obtain ⟨er, ec, ew, hp⟩ : ∃ er ec ew, ed xs l = ⟨er, ec, ew⟩ := ⟨_, _, _, rfl⟩
        rw [hp] at ra
        have HX := Lib.hid hp
        have x0 : wr.cell? ⟨ab, ao + l * 3, none⟩ = some (.int .i64 er) := ra 0 _ rfl
        have x1 : wr.cell? ⟨ab, ao + l * 3 + 1, none⟩ = some (.int .i64 ec) := ra 1 _ rfl
        have x2 : wr.cell? ⟨ab, ao + l * 3 + 2, none⟩ = some (.int .i64 ew) := ra 2 _ rfl
        clear ra hp
        by_cases c2 : er = r
        · have d2 : decide (er = r) = true := decide_eq_true c2
          have e2 : (er == r) = true := by rw [c2]; exact beq_self_eq_true _
          have HC2 := Lib.hid c2
          clear c2
          by_cases c3 : ec = cc
          · have d3 : decide (ec = cc) = true := decide_eq_true c3
            have e3 : (ec == cc) = true := by rw [c3]; exact beq_self_eq_true _
            have HC3 := Lib.hid c3
            clear c3
            refine wp_region_bw wr.heap.size _ (Below.refl _ _) (by kernel_rfl) (by kernel_rfl) ?_
            repeat (go_big_quiet_step (fail))
            refine wpQuiet_nil ?_
            intro x
            have g3 : x.i.cell? ⟨bg, 2, none⟩ = some (.slice (some ⟨ab, ao, none⟩) n c) := (x.h.cell (p := ⟨bg, 2, none⟩) k0).trans g2
            have x3 : x.i.cell? ⟨ab, ao + l * 3 + 2, none⟩ = some (.int .i64 ew) := (x.h.cell (p := ⟨ab, ao + l * 3 + 2, none⟩) hab2).trans x2
            go_wp2_with fail
            go_ret
            refine gives_of_eq ?_ (S.below.trans (x.h.mono S.below.size))
            have e := wq_hit HG.out (i := l) (by rw [HL.out]; exact hln)
            rw [HX.out] at e
            dsimp only at e
            rw [← HC2.out, ← HC3.out, e]
            rfl
          · have d3 : decide (ec = cc) = false := decide_eq_false c3
            have e3 : (ec == cc) = false := beq_false_of_ne c3
            refine wp_region_bw wr.heap.size _ (Below.refl _ _) (by kernel_rfl) (by kernel_rfl) ?_
            repeat (go_big_quiet_step (fail))
            refine wpQuiet_nil ?_
            intro x
            go_wp2_with fail
            go_ret
            refine gives_of_eq ?_ (S.below.trans (x.h.mono S.below.size))
            rw [wq_end HG.out H1.out (by rw [HL.out]; exact H2.out) (by
              rw [HL.out]
              rintro ⟨h1, h2⟩
              revert h2
              rw [HX.out]; exact fun h => c3 h.2)]
            rfl
        · have d2 : decide (er = r) = false := decide_eq_false c2
          have e2 : (er == r) = false := beq_false_of_ne c2
          refine wp_region_bw wr.heap.size _ (Below.refl _ _) (by kernel_rfl) (by kernel_rfl) ?_
          repeat (go_big_quiet_step (fail))
          refine wpQuiet_nil ?_
          intro x
          go_wp2_with fail
          go_ret
          refine gives_of_eq ?_ (S.below.trans (x.h.mono S.below.size))
          rw [wq_end HG.out H1.out (by rw [HL.out]; exact H2.out) (by
            rw [HL.out]
            rintro ⟨h1, h2⟩
            revert h2
            rw [HX.out]; exact fun h => c2 h.1)]
          rfl
      · have dl : decide ((l : Int) < (n : Int)) = false := decide_eq_false (by omega)
        have dl2 : decide (l < n) = false := decide_eq_false hln
        refine wp_region_bw wr.heap.size _ (Below.refl _ _) (by kernel_rfl) (by kernel_rfl) ?_
        repeat (go_big_quiet_step (fail))
        refine wpQuiet_nil ?_
        intro x
        go_wp2_with fail
        go_ret
        refine gives_of_eq ?_ (S.below.trans (x.h.mono S.below.size))
        rw [wq_end HG.out H1.out (by rw [HL.out]; exact H2.out) (by
          rw [HL.out]
          rintro ⟨h1, h2⟩
          revert h2
          exact fun _ => hln h1)]
        rfl
end Go.Proofs.Ytikjelkehcnjmaa
