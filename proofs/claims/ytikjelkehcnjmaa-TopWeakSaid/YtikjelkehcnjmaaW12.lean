/- Top: least, walked: row by row the least column with which the rest can be worth as much. -/
import Derived.Test.YtikjelkehcnjmaaW11
namespace Go.Proofs.Ytikjelkehcnjmaa
open Go.RowKit
set_option linter.unusedVariables false
set_option linter.unusedSimpArgs false
def toX (r : Nat) (f : Nat → Option Nat) : Nat → Int := fun i => if i < r then toI f i else 0
theorem toX_take {n r : Nat} {f : Nat → Option Nat} (h : r < n) (c : Nat) : (iarr n (toX r f)).setIfInBounds r (.int .i64 (c : Int)) = iarr n (toX (r + 1) (give f r c)) := by
  rw [iarr_set _ h]
  exact iarr_congr fun i _ => by
    unfold up toX
    by_cases e : i = r
    · subst e; rw [if_pos rfl, if_pos (by omega)]; unfold toI; rw [give_self]
    · rw [if_neg e]
      by_cases e2 : i < r
      · rw [if_pos e2, if_pos (by omega)]; unfold toI; rw [give_ne e]
      · rw [if_neg e2, if_neg (by omega)]
theorem toX_skip {n r : Nat} {f : Nat → Option Nat} (h : r < n) : (iarr n (toX r f)).setIfInBounds r (.int .i64 (-1)) = iarr n (toX (r + 1) (lone f r)) := by
  rw [iarr_set _ h]
  exact iarr_congr fun i _ => by
    unfold up toX
    by_cases e : i = r
    · subst e; rw [if_pos rfl, if_pos (by omega)]; unfold toI; rw [lone_self]
    · rw [if_neg e]
      by_cases e2 : i < r
      · rw [if_pos e2, if_pos (by omega)]; unfold toI; rw [lone_ne e]
      · rw [if_neg e2, if_neg (by omega)]
theorem barr_back {n c : Nat} {T : Nat → Bool} (h : c < n) (hT : T c = false) : (barr n (mark T c)).setIfInBounds c (.bool false) = barr n T := by
  unfold barr; rw [arr_set _ h]
  exact arr_congr fun i _ => by
    by_cases e : i = c
    · subst e; rw [if_pos rfl, hT]
    · rw [if_neg e, mark_ne e]
theorem succ_cell (x : Value) (r : Nat) : (#[x] : Array Value).setIfInBounds 0 (.int .i64 ((r : Int) + 1)) = #[.int .i64 ((r + 1 : Nat) : Int)] := by
  have : ((r + 1 : Nat) : Int) = (r : Int) + 1 := by omega
  rw [this]; rfl
theorem zero3 : (Try.prog.info? 3).map (fun i => (i.zero, i.size)) = some (some (.int .i64 0), 1) := by kernel_rfl
set_option maxRecDepth 20000 in
set_option maxHeartbeats 32000000 in
theorem least_ok {w : World} {tb m k : Nat} {W : Nat → Nat → Int} {Y Z : Nat → Int} {f0 : Nat → Option Nat} (hT : Tab w tb m k W) (hm : m ≤ 64) (hk : k ≤ 64) (hW : ∀ r c, 0 ≤ W r c ∧ W r c ≤ MAXW) (hY : ∀ r, r < m → 0 ≤ Y r ∧ Y r ≤ MAXW) (hZ : ∀ c, c < k → 0 ≤ Z c ∧ Z c ≤ MAXW) (hM : Mat m k W f0) (hC : Comp m k W f0 Y Z) :
    Calls Try.prog 16 #[.pointer (some ⟨tb, 0, none⟩), .agg (iarr 64 Y), .agg (iarr 64 Z)] w fun e w' => ∃ (f : Nat → Option Nat) (T : Nat → Bool), e = .returned (.agg (iarr 64 (toX m f))) ∧ Below w.heap.size w w' ∧ Done m k W Y Z m T f := by
  have htb : tb < w.heap.size := lt_of_block hT
  have HT := Lib.hid (fun (u : World) (hb : Below w.heap.size w u) => hT.below hb htb)
  have HTB := Lib.hid htb
  have HW := Lib.hid hW
  have HY := Lib.hid hY
  have HZ := Lib.hid hZ
  have D0 := Lib.hid (done_first (g := fun _ => none) hM hC)
  clear hT htb hW hY hZ hM hC
  have S0 := mem_zero w
  go_enter Try.func16, Try.ntmps16
  go_wp2_with (first
    | (refine wpList_boxnew rfl 42 _ (by rfl) _ (by rfl) #[.pointer (some ⟨tb, 0, none⟩)] rfl S0 ?_; intro w1 bx S1; clear S0)
    | (refine wpList_boxnew rfl 44 _ (by rfl) _ (by rfl) (iarr 64 Y) rfl S1 ?_; intro w2 by_ S2; clear S1)
    | (refine wpList_boxnew rfl 44 _ (by rfl) _ (by rfl) (iarr 64 Z) rfl S2 ?_; intro w3 bz S3; clear S2)
    | (refine wpList_new rfl 44 (by rfl) (iarr 64 fun _ => 0) 64 zero44 S3 ?_; intro w4 bo S4; clear S3)
    | fail)
  try go_frame
  go_step3
  go_wp2_with (first
    | (refine wpList_new rfl 54 (by rfl) (barr 64 fun _ => false) 64 zero54 S4 ?_; intro w5 bt S5; clear S4)
    | (refine wpList_new1 rfl 3 (by rfl) (.int .i64 0) 1 zero3 rfl S5 ?_; intro w6 bd S6; clear S5)
    | (refine wpList_put rfl 3 _ _ (by rfl) bd 0 (by rfl) (.int .i64 0) (by rfl) S6 5 (by rfl) (by decide) size3 (by rfl) (by rfl) _ rfl ?_; intro w7 S7; clear S6)
    | (refine wpList_new1 rfl 66 (by rfl) .nilFunc 1 zero66 rfl S7 ?_; intro w8 bg S8; clear S7)
    | (refine wpList_put rfl 66 _ _ (by rfl) bg 0 (by rfl) (tfv bd bt bx by_ bz) (by rfl) S8 6 (by rfl) (by decide) size66 (by rfl) (by rfl) _ rfl ?_; intro w9 S9; clear S8)
    | fail)
  try go_frame
  go_step3
  simp only [Exit.then]
  have e0 : iarr 64 (fun _ => 0) = iarr 64 (toX 0 fun _ => none) := iarr_congr fun i _ => by unfold toX; rw [if_neg (by omega)]
  have M0 : Mem w w9 [(bx, .cells #[.pointer (some ⟨tb, 0, none⟩)] 42 (0, 0)), (by_, .cells (iarr 64 Y) 44 (0, 0)), (bz, .cells (iarr 64 Z) 44 (0, 0)), (bo, .cells (iarr 64 (toX 0 (fun _ => none))) 44 (0, 0)), (bt, .cells (barr 64 (fun _ => false)) 54 (0, 0)), (bd, .cells #[.int .i64 (0 : Nat)] 3 (0, 0)), (bg, .cells #[tfv bd bt bx by_ bz] 66 (0, 0))] := by rw [← e0]; exact S9
  clear S9 e0
  go_wp2_with fail
  go_loopg [11] m (fun gk v11 wr => ∃ (r d : Nat) (T : Nat → Bool) (f : Nat → Option Nat), gk + r = m ∧ v11 = .int .i64 r ∧ Done m k W Y Z r T f ∧ Mem w wr [(bx, .cells #[.pointer (some ⟨tb, 0, none⟩)] 42 (0, 0)), (by_, .cells (iarr 64 Y) 44 (0, 0)), (bz, .cells (iarr 64 Z) 44 (0, 0)), (bo, .cells (iarr 64 (toX r f)) 44 (0, 0)), (bt, .cells (barr 64 T) 54 (0, 0)), (bd, .cells #[.int .i64 (d : Nat)] 3 (0, 0)), (bg, .cells #[tfv bd bt bx by_ bz] 66 (0, 0))])
  case atStart => exact ⟨0, 0, fun _ => false, fun _ => none, rfl, rfl, D0.out, M0⟩
  case round =>
    clear M0
    obtain ⟨r, d, T, f, hr, rfl, D, M⟩ := hrel
    have HD := Lib.hid D
    have HR := Lib.hid hr
    clear D
    have q0 := M.cell 0 (b := bx) rfl (j := 0) (v := .pointer (some ⟨tb, 0, none⟩)) rfl
    have q1 := (HT.out _ M.below).rows
    by_cases hrm : r < m
    · clear hr
      have r64 : r < 64 := by omega
      go_wp2_with fail
      clear q0 q1
      go_loopg [12] k (fun gk v12 wr => ∃ (c d : Nat), gk + c = k ∧ v12 = .int .i64 c ∧ (∀ c', c' < c → Tit W Y Z r T r c' → ¬ Can m k W Y Z (r + 1) (mark T c')) ∧ Mem w wr [(bx, .cells #[.pointer (some ⟨tb, 0, none⟩)] 42 (0, 0)), (by_, .cells (iarr 64 Y) 44 (0, 0)), (bz, .cells (iarr 64 Z) 44 (0, 0)), (bo, .cells (iarr 64 (toX r f)) 44 (0, 0)), (bt, .cells (barr 64 T) 54 (0, 0)), (bd, .cells #[.int .i64 (d : Nat)] 3 (0, 0)), (bg, .cells #[tfv bd bt bx by_ bz] 66 (0, 0))])
      case atStart => exact ⟨0, d, rfl, rfl, fun c' h => absurd h (Nat.not_lt_zero _), M⟩
      case round =>
        clear M
        obtain ⟨c, d, hc, rfl, no, M⟩ := hrel
        have HNO := Lib.hid no
        clear no
        have q0 := M.cell 0 (b := bx) rfl (j := 0) (v := .pointer (some ⟨tb, 0, none⟩)) rfl
        have q1 := (HT.out _ M.below).cols
        by_cases hck : c < k
        · have c64 : c < 64 := by omega
          go_wp2_with (first
            | (refine wpList_put rfl 3 _ _ (by rfl) bd 0 (by rfl) _ (by rfl) M 5 (by rfl) (by exact Nat.zero_lt_one) size3 (by rfl) (by rfl) #[.int .i64 r] (by rfl) ?_; intro w1 M1; clear M q0 q1; have q2 := M1.cell 6 (b := bg) rfl (j := 0) (v := tfv bd bt bx by_ bz) rfl; unfold tfv at q2)
            | fail)
          have E1 : TE w1 bd bt bx by_ bz tb r T m k W Y Z := ⟨M1.at 5 rfl, M1.at 4 rfl, M1.at 0 rfl, HT.out _ M1.below, M1.at 1 rfl, M1.at 2 rfl⟩
          refine (tight_ok E1 r64 c64 (HW.out r c) (HY.out r hrm) (HZ.out c hck)).mono ?_
          rintro e w2 ⟨rfl, x, rfl⟩
          have M2 := M1.up x.h
          clear M1 q2 E1
          generalize x.i = w3 at *
          clear x w1
          cases hX : titb W Y Z r T r c with
          | false =>
            have HX := Lib.hid (show ¬ Tit W Y Z r T r c from fun h => by rw [titb_iff.2 h] at hX; cases hX)
            clear hX
            go_wp2_with fail
            go_roundg (gk - 1)
            case measure => omega
            case rel =>
              refine ⟨c + 1, r, by omega, by go_num, fun c' h hT' => ?_, M2⟩
              by_cases z : c' = c
              · subst z; exact (HX.out hT').elim
              · exact HNO.out c' (by omega) hT'
          | true =>
            have HX := Lib.hid (titb_iff.1 hX)
            clear hX
            go_wp2_with (first
              | (refine wpList_put rfl 3 _ _ (by rfl) bd 0 (by rfl) _ (by rfl) M2 5 (by rfl) (by exact Nat.zero_lt_one) size3 (by rfl) (by rfl) #[.int .i64 (r + 1 : Nat)] (succ_cell _ _) ?_; intro w4 M4; clear M2)
              | (refine wpList_put rfl 4 _ _ (by rfl) bt c (by rfl) _ (by rfl) M4 4 (by rfl) (by rw [barr_size]; omega) size4 (by rfl) (by rfl) _ (barr_set _ (by omega)) ?_; intro w5 M5; clear M4)
              | fail)
            have E5 : TE w5 bd bt bx by_ bz tb (r + 1) (mark T c) m k W Y Z := ⟨M5.at 5 rfl, M5.at 4 rfl, M5.at 0 rfl, HT.out _ M5.below, M5.at 1 rfl, M5.at 2 rfl⟩
            refine (can_ok E5 (M5.at 6 rfl) hm hk (by omega) HW.out HY.out HZ.out).mono ?_
            rintro e w6 ⟨rfl, x, rfl⟩
            have M6 := M5.up x.h
            clear M5 E5
            generalize x.i = w7 at *
            clear x w5
            cases hC : canb m k W Y Z (r + 1) (mark T c) with
            | true =>
              have HCN := Lib.hid (canb_iff.1 hC)
              clear hC
              go_wp2_with (first
                | (refine wpList_put rfl 3 _ _ (by rfl) bo r (by rfl) _ (by rfl) M6 3 (by rfl) (by rw [iarr_size]; omega) size3 (by rfl) (by rfl) _ (toX_take r64 c) ?_; intro w8 M8; clear M6)
                | fail)
              go_roundg (m - r - 1)
              case measure => have := HR.out; omega
              case rel => exact ⟨r + 1, r + 1, mark T c, give f r c, by omega, by go_num, HD.out.take hck HX.out HCN.out, M8⟩
            | false =>
              have HCN := Lib.hid (show ¬ Can m k W Y Z (r + 1) (mark T c) from fun h => by rw [canb_iff.2 h] at hC; cases hC)
              clear hC
              go_wp2_with (first
                | (refine wpList_put rfl 4 _ _ (by rfl) bt c (by rfl) _ (by rfl) M6 4 (by rfl) (by rw [barr_size]; omega) size4 (by rfl) (by rfl) _ (barr_back c64 HX.out.2.1) ?_; intro w8 M8; clear M6)
                | fail)
              go_roundg (gk - 1)
              case measure => omega
              case rel =>
                refine ⟨c + 1, r + 1, by omega, by go_num, fun c' h hT' => ?_, M8⟩
                by_cases z : c' = c
                · subst z; exact HCN.out
                · exact HNO.out c' (by omega) hT'
        · obtain rfl : c = k := by omega
          clear hc hck
          go_wp2_with (first
            | (refine wpList_put rfl 3 _ _ (by rfl) bd 0 (by rfl) _ (by rfl) M 5 (by rfl) (by exact Nat.zero_lt_one) size3 (by rfl) (by rfl) #[.int .i64 (r + 1 : Nat)] (succ_cell _ _) ?_; intro w4 M4; clear M)
            | (refine wpList_put rfl 3 _ _ (by rfl) bo r (by rfl) _ (by rfl) M4 3 (by rfl) (by rw [iarr_size]; omega) size3 (by rfl) (by rfl) _ (toX_skip r64) ?_; intro w8 M8; clear M4)
            | fail)
          go_roundg (m - r - 1)
          case measure => have := HR.out; omega
          case rel => exact ⟨r + 1, r + 1, T, lone f r, by omega, by go_num, HD.out.skip hrm (fun c' h1 h2 => HNO.out c' h1 h2), M8⟩
    · obtain rfl : r = m := by omega
      clear hr hrm
      go_wp2_with (first
        | (refine wpList_getrow rfl 44 _ (by rfl) bo (by rfl) M 3 (by rfl) _ Try.underlying44 rfl (by rw [iarr_size]; exact size44) ?_)
        | (refine wpList_putrow rfl 44 _ _ (by rfl) bo (by rfl) (iarr 64 (toX r f)) (by rfl) M 3 (by rfl) (by rw [iarr_size]; exact size44) (by rfl) (iarr_one _ _) ?_; intro w4 M4)
        | fail)
      try rw [Exit.noGoto_ret]
      try simp only [Exit.inBlock, Exit.then]
      refine bodyPost_ret (v := .agg (iarr 64 (toX r f))) (results1 (a := 6) (t := 44) rfl (by rfl) (M4.at 3 rfl) Try.underlying44 rfl (by rw [iarr_size]; exact size44)) rfl ?_
      exact ⟨f, T, rfl, M4.below, HD.out⟩
end Go.Proofs.Ytikjelkehcnjmaa
