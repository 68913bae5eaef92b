/- Top: prices, walked. -/
import Derived.Test.YtikjelkehcnjmaaW3
import Derived.Test.YtikjelkehcnjmaaM8
import Derived.StillTailTactics
namespace Go.Proofs.Ytikjelkehcnjmaa
open Go.RowKit
set_option linter.unusedVariables false
set_option linter.unusedSimpArgs false
theorem wpStill_of_quiet {P : Program} {ops : Array Oper} {W : World} {Q : Act → Prop} : ∀ (l : List Oper) (a : Act), wpQuiet P ops (fun w' => w' = W) Q l a → wpStill P ops W Q l a
  | [], _, h => h
  | o :: rest, a, h => by
    unfold wpQuiet at h
    unfold wpStill
    by_cases hw : Region.wanted o (yielded ops a.tmps) = true
    · rw [if_pos hw] at h ⊢
      obtain ⟨v, h1, h2⟩ := h
      have h3 := h1 W rfl
      have h4 := wpStill_of_quiet rest _ h2
      unfold Oper.quietAt at h3
      unfold Oper.still
      generalize (execOp a.eval o).run P W = r at h3
      unfold Oper.quietUpon at h3
      unfold Oper.stillUpon
      split at h3
      · obtain ⟨rfl, rfl⟩ := h3; exact ⟨rfl, h4⟩
      · obtain ⟨rfl, rfl⟩ := h3; exact ⟨rfl, h4⟩
      · obtain ⟨rfl, h5⟩ := h3; exact ⟨rfl, v, h5, h4⟩
      · exact h3.elim
    · rw [if_neg hw] at h ⊢
      exact wpStill_of_quiet rest _ h
/-- a region that draws its order: all read but a forced tail -/
theorem wp_region_tailq {P : Program} {id : Nat} {Q : Exit → Act → World → Prop} {a : Act} {w : World} {l : List Oper} (n : Nat) (hm : P.follows .mixedOrders = true) (hB : Region.lexTailB .any l.toArray n = true)
    (h : wpQuiet P l.toArray (fun w' => w' = w.drew) (fun a' => wpList P l.toArray Q (l.drop n) a' w.drew) (l.take n) a) : (Code.region id l.toArray true).wp P Q a w :=
  wp_region_still_tail n hm hB (wpStill_of_quiet _ _ h)
theorem Mem.drew {w0 w : World} {bs : List (Nat × Obj)} (S : Mem w0 w bs) : Mem w0 w.drew bs := S.up (Below.refl _ _).drew
theorem toI_none {f : Nat → Option Nat} {r : Nat} (h : f r = none) : toI f r = -1 := by unfold toI; rw [h]
theorem toI_some {f : Nat → Option Nat} {r d : Nat} (h : f r = some d) : toI f r = d := by unfold toI; rw [h]
theorem own_step {m n j : Nat} {g : Nat → Int} (h : j < n) : (iarr n fun i => if i < j then g i else 0).setIfInBounds j (.int .i64 (g j)) = iarr n fun i => if i < j + 1 then g i else 0 := by
  rw [iarr_set _ h]
  exact iarr_congr fun i _ => by
    unfold up
    by_cases e : i = j
    · subst e; simp
    · by_cases e2 : i < j
      · simp [e, e2, show i < j + 1 by omega]
      · simp [e, e2, show ¬ i < j + 1 by omega]
theorem own_zero {n j : Nat} {g : Nat → Int} (h : g j = 0) : (iarr n fun i => if i < j then g i else 0) = iarr n fun i => if i < j + 1 then g i else 0 :=
  iarr_congr fun i _ => by
    by_cases e : i = j
    · subst e; simp [h]
    · by_cases e2 : i < j
      · simp [e2, show i < j + 1 by omega]
      · simp [e2, show ¬ i < j + 1 by omega]
theorem results2 {f : Func} {tmps : Array Value} {w : World} {a a' : Tmp} {t tt : TypeId} {b b' : Nat} {cs cs' : Array Value} {d : TypeDesc} (hf : f.results = #[.cell a t, .cell a' t]) (ha : tmps[a]?.getD undef = .pointer (some ⟨b, 0, none⟩)) (ha' : tmps[a']?.getD undef = .pointer (some ⟨b', 0, none⟩))
    (hh : w.heap[b]? = some (.cells cs tt (0, 0))) (hh' : w.heap[b']? = some (.cells cs' tt (0, 0))) (hu : Try.prog.underlying t = some d) (hd : d.isRow = true) (hi : (Try.prog.info? t).map (·.size) = some cs.size) (hi' : (Try.prog.info? t).map (·.size) = some cs'.size) : (results f tmps).run Try.prog w = .ok (.tuple #[.agg cs, .agg cs']) w := by
  have h := run_loadVar_row (P := Try.prog) w b tt t cs (0, 0) d hh hu (by cases d <;> first | rfl | cases hd) hi
  have h' := run_loadVar_row (P := Try.prog) w b' tt t cs' (0, 0) d hh' hu (by cases d <;> first | rfl | cases hd) hi'
  have e1 : (asAddr (.pointer (some ⟨b, 0, none⟩))).run Try.prog w = .ok ⟨b, 0, none⟩ w := rfl
  have e2 : (asAddr (.pointer (some ⟨b', 0, none⟩))).run Try.prog w = .ok ⟨b', 0, none⟩ w := rfl
  simp [results, hf, ha, ha', h, h', e1, e2, Result.andThen]
set_option maxRecDepth 20000 in
set_option maxHeartbeats 32000000 in
theorem prices_ok {w : World} {tb m k : Nat} {W : Nat → Nat → Int} {B : Int} {f : Nat → Option Nat} {y' z' : Nat → Int} (hT : Tab w tb m k W) (hm : m ≤ 64) (hk : k ≤ 64) (hB : 0 ≤ B ∧ B ≤ 2199023255552) (hW : ∀ r c, 0 ≤ W r c ∧ W r c ≤ B) (hM : Mat m k W f) (hd : Dual m k W y' z') (hc : Comp m k W f y' z') :
    Calls Try.prog 14 #[.pointer (some ⟨tb, 0, none⟩), .agg (iarr 64 (toI f))] w fun e w' => ∃ z : Nat → Int, e = .returned (.tuple #[.agg (iarr 64 (fun i => if i < m then own W f z i else 0)), .agg (iarr 64 z)]) ∧ Below w.heap.size w w' ∧ Lst m k W f (own W f z) z ∧ ∀ c, k ≤ c → z c = 0 := by
  have htb : tb < w.heap.size := (Array.getElem?_eq_some_iff.1 hT).1
  have S := (((mem_zero w).alloc (.cells (iarr 64 (toI f)) 44)).alloc (.cells (iarr 64 fun _ => 0) 44)).alloc (.cells (iarr 64 fun _ => 0) 44)
  simp only [World.size_alloc] at S
  have HT := Lib.hid (fun (u : World) (hb : Below w.heap.size w u) => hT.below hb htb)
  have HTB := Lib.hid htb
  have HM := Lib.hid hM
  have HD := Lib.hid hd
  have HC := Lib.hid hc
  clear hT htb hM hd hc
  go_enter Try.func14, Try.ntmps14
  go_wp2_with (first
    | (refine wpList_allocz rfl 44 (by rfl) (iarr 64 fun _ => 0) 64 zero44 ?_)
    | fail)
  generalize ((w.alloc (.cells (iarr 64 (toI f)) 44)).alloc (.cells (iarr 64 fun _ => 0) 44)).alloc (.cells (iarr 64 fun _ => 0) 44) = w1 at *
  generalize w.heap.size + 1 + 1 = bz at *
  generalize w.heap.size + 1 = by_ at *
  obtain ⟨bt, hbt⟩ : ∃ bt : Nat, bt = w.heap.size := ⟨_, rfl⟩
  rw [← hbt] at S ⊢
  have HBT := Lib.hid hbt
  clear hbt
  go_loopg [6] ((tot z' k).toNat + 1) (fun gk v6 wr => ∃ (more : Bool) (z : Nat → Int), v6 = .bool more ∧ PO m k W f z' gk more z ∧ Mem w wr [(bt, .cells (iarr 64 (toI f)) 44 (0, 0)), (by_, .cells (iarr 64 fun _ => 0) 44 (0, 0)), (bz, .cells (iarr 64 z) 44 (0, 0))])
  case atStart => exact ⟨true, fun _ => 0, rfl, po_first, S⟩
  case round =>
    clear S
    obtain ⟨more, z, rfl, P, S⟩ := hrel
    cases more with
    | true =>
      obtain ⟨g, hg⟩ : ∃ g : Nat, g = gk := ⟨_, rfl⟩
      rw [← hg] at P
      have HG := Lib.hid hg
      have HP := Lib.hid P
      clear hg P
      go_wp2_with fail
      go_loopg [6, 7] m (fun gk v6 v7 wr => ∃ (r : Nat) (more2 : Bool) (z2 : Nat → Int), gk + r = m ∧ v7 = .int .i64 r ∧ v6 = .bool more2 ∧ PR m k W f z r 0 more2 z2 ∧ Mem w wr [(bt, .cells (iarr 64 (toI f)) 44 (0, 0)), (by_, .cells (iarr 64 fun _ => 0) 44 (0, 0)), (bz, .cells (iarr 64 z2) 44 (0, 0))])
      case atStart => exact ⟨0, false, z, rfl, rfl, rfl, pr_first HP.out.pin HP.out.out, S⟩
      case round =>
        clear S
        obtain ⟨r, more2, z2, hr, rfl, rfl, P2, S⟩ := hrel
        have HR := Lib.hid hr
        by_cases hrm : r < m
        · have t1 := (HT.out _ S.below).rows
          have t2 : tb < wr.heap.size := Nat.lt_of_lt_of_le HTB.out S.below.size
          have q0 := S.icell 0 (b := bt) rfl (j := r) (by omega)
          have o1 := P2.pin.own HM.out HD.out HC.out hW hB.1 hrm
          have o2 := hB.2
          have HP2 := Lib.hid P2
          clear P2
          cases hf : f r with
          | none =>
            rw [toI_none hf] at q0
            have HF := Lib.hid hf
            have ho : own W f z2 r = 0 := own_none hf
            have HO := Lib.hid ho
            clear hf ho o1 hr
            go_wp2_with fail
            go_loopg [6, 9] k (fun gk v6 v9 wr => ∃ (c : Nat) (more3 : Bool) (z3 : Nat → Int), gk + c = k ∧ v9 = .int .i64 c ∧ v6 = .bool more3 ∧ PR m k W f z r c more3 z3 ∧ own W f z3 r = 0 ∧ Mem w wr [(bt, .cells (iarr 64 (toI f)) 44 (0, 0)), (by_, .cells (iarr 64 fun _ => 0) 44 (0, 0)), (bz, .cells (iarr 64 z3) 44 (0, 0))])
            case atStart => exact ⟨0, more2, z2, rfl, rfl, rfl, HP2.out, HO.out, S⟩
            case round =>
              clear S
              obtain ⟨c, more3, z3, hc, rfl, rfl, P3, ho, S⟩ := hrel
              have t1 := (HT.out _ S.below).cols
              have t2 : tb < wr.heap.size := Nat.lt_of_lt_of_le HTB.out S.below.size
              have HO3 := Lib.hid ho
              have HP3 := Lib.hid P3
              clear P3 ho
              by_cases hck : c < k
              · have q0 := S.icell 0 (b := bt) rfl (j := r) (by omega)
                rw [toI_none HF.out] at q0
                have q1 := (HT.out _ S.below).w (r := r) (c := c) (by omega) (by omega) rfl
                have q2 := S.icell 2 (b := bz) rfl (j := c) (by omega)
                have p1 := hW r c
                have p2 := HP3.out.pin.top HD.out HC.out hW hB.1 hck
                have c64 : c < 64 := by omega
                by_cases hx : z3 c < W r c
                · have hne : f r ≠ some c := fun e => by
                    have e1 := own_some (w := W) (z := z3) e
                    have e2 := HO3.out
                    rw [e1] at e2; omega
                  have hp := HP3.out.put HM.out hrm hck (by rw [HO3.out]; omega)
                  have hq : own W f (up z3 c (W r c - own W f z3 r)) r = 0 := (own_up hne).trans HO3.out
                  rw [HO3.out] at hp hq
                  rw [Int.sub_zero] at hp hq
                  have hx2 : decide (z3 c < W r c) = true := decide_eq_true hx
                  have hne2 : ¬ (c : Int) = -1 := by omega
                  have hc1 : (iarr 64 z3).setIfInBounds c (.int .i64 (W r c)) = iarr 64 (up z3 c (W r c)) := iarr_set _ c64 _
                  have HPP := Lib.hid hp
                  have HQQ := Lib.hid hq
                  have HC1 := Lib.hid hc1
                  clear hp hq hc1 hne
                  go_wp2_with (first
                    | (refine wpList_put rfl 3 _ _ (by rfl) bz c (by rfl) _ (by rfl) S 2 (by rfl) (by rw [iarr_size]; omega) size3 (by rfl) (by rfl) _ HC1.out ?_; intro w8 S8; clear S)
                    | fail)
                  go_roundg (gk - 1)
                  case measure => omega
                  case rel => exact ⟨c + 1, true, _, by omega, by go_num, rfl, HPP.out, HQQ.out, S8⟩
                · have hx2 : decide (z3 c < W r c) = false := decide_eq_false hx
                  have hp := HP3.out.skip (.inr (by rw [HO3.out]; omega))
                  have HPP := Lib.hid hp
                  clear hp
                  go_wp2_with fail
                  go_roundg (gk - 1)
                  case measure => omega
                  case rel => exact ⟨c + 1, more3, z3, by omega, by go_num, rfl, HPP.out, HO3.out, S⟩
              · obtain rfl : c = k := by omega
                clear hc hck
                go_wp2_with fail
                go_roundg (m - r - 1)
                case measure => have := HR.out; omega
                case rel => exact ⟨r + 1, more3, z3, by omega, by go_num, rfl, HP3.out.row, S⟩
          | some d =>
            rw [toI_some hf] at q0
            have HF := Lib.hid hf
            have hdk := (HM.out.edge r d hrm hf).1
            have ho : own W f z2 r = W r d - z2 d := own_some hf
            rw [ho] at o1
            have HO := Lib.hid ho
            have q1 := (HT.out _ S.below).w (r := r) (c := d) (by omega) (by omega) rfl
            have q2 := S.icell 2 (b := bz) rfl (j := d) (by omega)
            have b1 := hW r d
            have b2 := HP2.out.pin.top HD.out HC.out hW hB.1 hdk
            have l1 : bt < wr.heap.size := (Array.getElem?_eq_some_iff.1 (S.at 0 rfl)).1
            have l2 : bz < wr.heap.size := (Array.getElem?_eq_some_iff.1 (S.at 2 rfl)).1
            have d64 : d < 64 := by omega
            clear hf ho hr
            go_wp2_with fail
            refine wp_region_bw wr.heap.size _ (Below.refl _ _) (by kernel_rfl) (by kernel_rfl) ?_
            repeat (go_big_quiet_step (fail))
            refine wpQuiet_nil ?_
            intro x
            have S1 := S.up x.h
            clear S q0 q1 q2 l1 l2 t1 t2
            generalize x.i = w7 at *
            clear x wr
            have S := S1
            clear S1
            go_wp2_with fail
            go_loopg [6, 9] k (fun gk v6 v9 wr => ∃ (c : Nat) (more3 : Bool) (z3 : Nat → Int), gk + c = k ∧ v9 = .int .i64 c ∧ v6 = .bool more3 ∧ PR m k W f z r c more3 z3 ∧ own W f z3 r = (W r d - z2 d) ∧ Mem w wr [(bt, .cells (iarr 64 (toI f)) 44 (0, 0)), (by_, .cells (iarr 64 fun _ => 0) 44 (0, 0)), (bz, .cells (iarr 64 z3) 44 (0, 0))])
            case atStart => exact ⟨0, more2, z2, rfl, rfl, rfl, HP2.out, HO.out, S⟩
            case round =>
              clear S
              obtain ⟨c, more3, z3, hc, rfl, rfl, P3, ho, S⟩ := hrel
              have t1 := (HT.out _ S.below).cols
              have t2 : tb < wr.heap.size := Nat.lt_of_lt_of_le HTB.out S.below.size
              have HO3 := Lib.hid ho
              have HP3 := Lib.hid P3
              clear P3 ho
              by_cases hck : c < k
              · have q0 := S.icell 0 (b := bt) rfl (j := r) (by omega)
                rw [toI_some HF.out] at q0
                have q1 := (HT.out _ S.below).w (r := r) (c := c) (by omega) (by omega) rfl
                have q2 := S.icell 2 (b := bz) rfl (j := c) (by omega)
                have p1 := hW r c
                have p2 := HP3.out.pin.top HD.out HC.out hW hB.1 hck
                have c64 : c < 64 := by omega
                by_cases hx : z3 c < W r c - (W r d - z2 d)
                · have hne : f r ≠ some c := fun e => by
                    have e1 := own_some (w := W) (z := z3) e
                    have e2 := HO3.out
                    rw [e1] at e2; omega
                  have hp := HP3.out.put HM.out hrm hck (by rw [HO3.out]; omega)
                  have hq : own W f (up z3 c (W r c - own W f z3 r)) r = (W r d - z2 d) := (own_up hne).trans HO3.out
                  rw [HO3.out] at hp hq
                  have hx2 : decide (z3 c < W r c - (W r d - z2 d)) = true := decide_eq_true hx
                  have hne2 : ¬ (c : Int) = (d : Int) := fun e => hne (by rw [HF.out]; congr 1; omega)
                  have hc1 : (iarr 64 z3).setIfInBounds c (.int .i64 (W r c - (W r d - z2 d))) = iarr 64 (up z3 c (W r c - (W r d - z2 d))) := iarr_set _ c64 _
                  have HPP := Lib.hid hp
                  have HQQ := Lib.hid hq
                  have HC1 := Lib.hid hc1
                  clear hp hq hc1 hne
                  go_wp2_with (first
                    | (refine wpList_put rfl 3 _ _ (by rfl) bz c (by rfl) _ (by rfl) S 2 (by rfl) (by rw [iarr_size]; omega) size3 (by rfl) (by rfl) _ HC1.out ?_; intro w8 S8; clear S)
                    | fail)
                  go_roundg (gk - 1)
                  case measure => omega
                  case rel => exact ⟨c + 1, true, _, by omega, by go_num, rfl, HPP.out, HQQ.out, S8⟩
                · have hx2 : decide (z3 c < W r c - (W r d - z2 d)) = false := decide_eq_false hx
                  have hp := HP3.out.skip (.inr (by rw [HO3.out]; omega))
                  have HPP := Lib.hid hp
                  clear hp
                  go_wp2_with fail
                  go_roundg (gk - 1)
                  case measure => omega
                  case rel => exact ⟨c + 1, more3, z3, by omega, by go_num, rfl, HPP.out, HO3.out, S⟩
              · obtain rfl : c = k := by omega
                clear hc hck
                go_wp2_with fail
                go_roundg (m - r - 1)
                case measure => have := HR.out; omega
                case rel => exact ⟨r + 1, more3, z3, by omega, by go_num, rfl, HP3.out.row, S⟩
        · obtain rfl : r = m := by omega
          have t1 := (HT.out _ S.below).rows
          have t2 : tb < wr.heap.size := Nat.lt_of_lt_of_le HTB.out S.below.size
          have HP2 := Lib.hid P2
          clear P2 hr hrm
          go_wp2_with fail
          go_roundg (g - 1)
          case measure => have := HG.out; have := (HP.out.next HD.out HC.out HP2.out).1; omega
          case rel => exact ⟨_, z2, rfl, (HP.out.next HD.out HC.out HP2.out).2, S⟩
    | false =>
      have HL := Lib.hid (P.lst HM.out HD.out HC.out)
      have HP := Lib.hid P.pin
      have HZ := Lib.hid P.out
      clear P
      go_wp2_with fail
      go_loopg [11] m (fun gk v11 wr => ∃ j : Nat, gk + j = m ∧ v11 = .int .i64 j ∧ Mem w wr [(bt, .cells (iarr 64 (toI f)) 44 (0, 0)), (by_, .cells (iarr 64 fun i => if i < j then own W f z i else 0) 44 (0, 0)), (bz, .cells (iarr 64 z) 44 (0, 0))])
      case atStart =>
        refine ⟨0, rfl, rfl, ?_⟩
        have e0 : iarr 64 (fun _ => 0) = iarr 64 (fun i => if i < 0 then own W f z i else 0) := iarr_congr fun i _ => by rw [if_neg (by omega)]
        rw [← e0]; exact S
      case round =>
        clear S
        obtain ⟨j, hj, rfl, S⟩ := hrel
        by_cases hjm : j < m
        · have t1 := (HT.out _ S.below).rows
          have t2 : tb < wr.heap.size := Nat.lt_of_lt_of_le HTB.out S.below.size
          have q0 := S.icell 0 (b := bt) rfl (j := j) (by omega)
          cases hf : f j with
          | none =>
            rw [toI_none hf] at q0
            have HF := Lib.hid hf
            clear hf
            go_wp2_with fail
            go_roundg (gk - 1)
            case measure => omega
            case rel => exact ⟨j + 1, by omega, by go_num, by rw [← own_zero (g := own W f z) (own_none HF.out)]; exact S⟩
          | some d =>
            rw [toI_some hf] at q0
            have HF := Lib.hid hf
            have hdk := (HM.out.edge j d hjm hf).1
            have ho : own W f z j = W j d - z d := own_some hf
            have q1 := (HT.out _ S.below).w (r := j) (c := d) (by omega) (by omega) rfl
            have q2 := S.icell 2 (b := bz) rfl (j := d) (by omega)
            have b1 := hW j d
            have b2 := HP.out.top HD.out HC.out hW hB.1 hdk
            have o2 := hB.2
            have l1 : bt < wr.heap.size := (Array.getElem?_eq_some_iff.1 (S.at 0 rfl)).1
            have l2 : bz < wr.heap.size := (Array.getElem?_eq_some_iff.1 (S.at 2 rfl)).1
            have d64 : d < 64 := by omega
            have hc1 : (iarr 64 fun i => if i < j then own W f z i else 0).setIfInBounds j (.int .i64 (W j d - z d)) = iarr 64 fun i => if i < j + 1 then own W f z i else 0 := by rw [← ho]; exact own_step (m := m) (by omega)
            have HC1 := Lib.hid hc1
            clear hf ho hc1
            go_wp2_with fail
            refine wp_region_tailq 18 (by kernel_rfl) (by kernel_rfl) ?_
            simp only [List.take_succ_cons, List.take_zero, List.drop_succ_cons, List.drop_zero]
            repeat (go_big_quiet_step (fail))
            refine wpQuiet_nil ?_
            have S1 := S.drew
            clear S q0 q1 q2 l1 l2 t1 t2
            generalize wr.drew = w7 at *
            go_wp2_with (first
              | (refine wpList_put rfl 3 _ _ (by rfl) by_ j (by rfl) _ (by rfl) S1 1 (by rfl) (by rw [iarr_size]; omega) size3 (by rfl) (by rfl) _ HC1.out ?_; intro w8 S8; clear S1)
              | fail)
            go_roundg (gk - 1)
            case measure => omega
            case rel => exact ⟨j + 1, by omega, by go_num, S8⟩
        · obtain rfl : j = m := by omega
          have t1 := (HT.out _ S.below).rows
          have t2 : tb < wr.heap.size := Nat.lt_of_lt_of_le HTB.out S.below.size
          clear hj hjm
          go_wp2_with fail
          refine wp_region_held_drew (S := fun v => Mem w v [(bt, .cells (iarr 64 (toI f)) 44 (0, 0)), (by_, .cells (iarr 64 (fun i => if i < j then own W f z i else 0)) 44 (0, 0)), (bz, .cells (iarr 64 z) 44 (0, 0))]) (by kernel_rfl) (S.up ((Below.refl _ _).drew)) ?_
          intro hS
          try simp only [Act.put, List.setIfInBounds_toArray, List.set_cons_zero, List.set_cons_succ]
          refine wpAnyH_take (i := 0) (oi := { dst := some 104, op := Op.load 44 (Operand.tmp 4), type := 44, pos := "assign.go:104", after := #[], guard := none }) (v := .agg (iarr 64 (fun i => if i < j then own W f z i else 0))) rfl (by kernel_rfl) (by kernel_rfl) (by kernel_rfl) (fun _ _ _ h => h) (yields_loadrow (by rfl) 44 _ (by rfl) by_ (by rfl) (iarr 64 (fun i => if i < j then own W f z i else 0)) 44 _ (fun v hv => hv.at 1 rfl) Try.underlying44 rfl (by rw [iarr_size]; exact size44)) (by assumption) ?_
          try simp only [Act.put, List.setIfInBounds_toArray, List.set_cons_zero, List.set_cons_succ]
          refine wpAnyH_take (i := 1) (oi := { dst := some 105, op := Op.load 44 (Operand.tmp 5), type := 44, pos := "assign.go:104", after := #[{ on := 2, ground := Ground.gcOnly Departure.lateStores }], guard := none }) (v := .agg (iarr 64 z)) rfl (by kernel_rfl) (by kernel_rfl) (by kernel_rfl) (fun _ _ _ h => h) (yields_loadrow (by rfl) 44 _ (by rfl) bz (by rfl) (iarr 64 z) 44 _ (fun v hv => hv.at 2 rfl) Try.underlying44 rfl (by rw [iarr_size]; exact size44)) (by assumption) ?_
          try simp only [Act.put, List.setIfInBounds_toArray, List.set_cons_zero, List.set_cons_succ]
          refine wpAnyH_ready (rs := [2]) (by kernel_rfl) (by simp) ?_
          refine AllReadyH.cons (o := { dst := none, op := Op.store 44 (Operand.tmp 4) (Operand.tmp 104), type := 0, pos := "assign.go:104", after := #[{ on := 0, ground := Ground.data }, { on := 0, ground := Ground.phase }, { on := 1, ground := Ground.textOnly Departure.lateStores }], guard := none }) rfl (fun K hK => ?_) AllReadyH.nil
          rw [if_pos (by rfl)]
          refine wp_storerow 44 _ _ (by rfl) by_ (by rfl) (iarr 64 (fun i => if i < j then own W f z i else 0)) (iarr 64 (fun i => if i < j then own W f z i else 0)) (by rfl) (hS.at 1 rfl) (by rw [iarr_size]; exact size44) rfl (iarr_one _ _) ?_
          refine hK.out _ _ (hS.set 1 rfl (iarr 64 (fun i => if i < j then own W f z i else 0))) ?_
          clear hK K
          intro hS
          try simp only [Act.put, List.setIfInBounds_toArray, List.set_cons_zero, List.set_cons_succ]
          refine wpAnyH_ready (rs := [3]) (by kernel_rfl) (by simp) ?_
          refine AllReadyH.cons (o := { dst := none, op := Op.store 44 (Operand.tmp 5) (Operand.tmp 105), type := 0, pos := "assign.go:104", after := #[{ on := 1, ground := Ground.data }, { on := 2, ground := Ground.chain }, { on := 0, ground := Ground.phase }, { on := 1, ground := Ground.phase }, { on := 2, ground := Ground.phase }], guard := none }) rfl (fun K hK => ?_) AllReadyH.nil
          rw [if_pos (by rfl)]
          refine wp_storerow 44 _ _ (by rfl) bz (by rfl) (iarr 64 z) (iarr 64 z) (by rfl) (hS.at 2 rfl) (by rw [iarr_size]; exact size44) rfl (iarr_one _ _) ?_
          refine hK.out _ _ (hS.set 2 rfl (iarr 64 z)) ?_
          clear hK K
          intro hS
          try simp only [Act.put, List.setIfInBounds_toArray, List.set_cons_zero, List.set_cons_succ]
          refine wpAnyH_done (by kernel_rfl) ?_ _
          have S9 := hS
          try simp only [Exit.inBlock, Exit.then]
          go_wp2_with fail
          refine bodyPost_ret (results2 (a := 4) (a' := 5) (t := 44) rfl (by rfl) (by rfl) (S9.at 1 rfl) (S9.at 2 rfl) Try.underlying44 rfl (by rw [iarr_size]; exact size44) (by rw [iarr_size]; exact size44)) rfl ?_
          exact ⟨z, rfl, S9.below, HL.out, HZ.out⟩
end Go.Proofs.Ytikjelkehcnjmaa
