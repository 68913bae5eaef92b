/- Slab: the law's has: nothing there. -/
import Derived.Test.YtpnegofmebfcgaaG1
import Derived.Test.YtpnegofmebfcgaaUC
import Derived.Test.YtpnegofmebfcgaaUA
import Derived.Test.YtpnegofmebfcgaaUH
import Derived.Test.YtpnegofmebfcgaaP2
import Derived.LoopN
import Derived.Deep.RegionWith
namespace Go.Proofs.Ytpnegofmebfcgaa
open Go.RowKit Go.Shelf
attribute [local go_sem] BW.cell BW.frozen Oper.semAt_some
set_option linter.unusedVariables false
set_option linter.unusedSimpArgs false

section
variable (p : Option Addr) (g : Nat) (fl : List SL) (w : World) (ST : World → Prop) (hST0 : ST w) (hST : ∀ W W', ST W → Below w.heap.size W W' → ST W') (NN : Nat)
  (hseq : ∀ (n : Nat) (Bs : Nat) (W : World), 1 ≤ n → ST W → Bs < W.heap.size → W.cell? ⟨Bs, 0, none⟩ = some (.pointer p) →
    SeqStopsK Fence.wide n Try.prog 48 #[.pointer (some ⟨Bs, 0, none⟩)] (fun x : StrSL => #[.agg #[.int .i64 x.1.slot, .int .i64 x.1.gen], x.1.x]) (KT 111 g) (fun ys => vals ys = fl) (fun pre => ∃ k, vals pre = fl.take k) NN W)
  (hlenf : ∀ W, ST W → Calls Try.prog 24 #[.pointer p] W (Gives (.int .i64 (fl.length : Int)) W))
  (A : Option Addr) (n c : Nat) (ws : List HV) (hw : Rd HV.cells 4 w w.heap.size A n ws) (hn : n = fl.length) (hm : n ≤ 4096) (hlk : Likes fl ws)
include hST0 hST hseq hlenf hw hn hm hlk

set_option maxRecDepth 50000 in
set_option maxHeartbeats 32000000 in
theorem has_nil (h0 : n = 0) : Calls Try.prog 26 #[.pointer p, .slice A n c] w (Gives (.bool true) w) := by
  subst h0
  have HQ := Lib.hid hseq
  have HS := Lib.hid hST
  have HE := Lib.hid hlenf
  have HW := Lib.hid hw
  have HLK := Lib.hid hlk
  clear hseq hST hlenf hw hlk
  have hn1 : 0 ≤ fl.length := by omega
  have hn2 : fl.length ≤ 0 := by omega

  clear hn
  refine (callsIn_wide (n := 3)).1 ?_
  refine callsIn_of_wp_marks Try.func26 rfl trivial ?_ rfl
  simp only [Try.ntmps26, List.size_toArray, List.length_cons, List.length_nil, Nat.reduceAdd, Nat.reduceSub, Array.replicate_succ, Array.replicate_zero, List.push_toArray, List.append_toArray, List.nil_append, List.cons_append]
  refine wpIn_wide.2 ?_
  have hnil := fnil_s
  go_wp2_with fail
  refine (allof_b p (w.heap.size + 2) _ (by simp)).mono ?_
  rintro e W0 ⟨rfl, rfl⟩
  have B3 := ((Boxed.new w 56 (.slice A 0 c)).alloc (.cells #[.bool false] 4)).alloc (.cells #[.pointer p] 53)
  have B4 : Boxed (((w.alloc (.cells #[.slice A 0 c] 56)).alloc (.cells #[.bool false] 4)).alloc (.cells #[.pointer p] 53)) (w.heap.size + 1) 4 (.bool false) := by
    have := (Boxed.new (w.alloc (.cells #[.slice A 0 c] 56)) 4 (.bool false)).alloc (.cells #[.pointer p] 53)
    rwa [World.size_alloc] at this
  have BS : Boxed (((w.alloc (.cells #[.slice A 0 c] 56)).alloc (.cells #[.bool false] 4)).alloc (.cells #[.pointer p] 53)) (w.heap.size + 2) 53 (.pointer p) := by
    have := Boxed.new ((w.alloc (.cells #[.slice A 0 c] 56)).alloc (.cells #[.bool false] 4)) 53 (.pointer p)
    rwa [World.size_alloc, World.size_alloc] at this
  have bW : Below w.heap.size w (((w.alloc (.cells #[.slice A 0 c] 56)).alloc (.cells #[.bool false] 4)).alloc (.cells #[.pointer p] 53)) := (((Below.refl _ w).alloc (Nat.le_refl _) _).alloc (by simp) _).alloc (by simp; omega) _
  generalize (((w.alloc (.cells #[.slice A 0 c] 56)).alloc (.cells #[.bool false] 4)).alloc (.cells #[.pointer p] 53)) = Wt0 at *
  go_wp2_with fail
  refine wp_loop_rounds 3 ?_
  rw [rounds_succ]
  go_wp2_with fail
  have B3x := B3.alloc (.cells #[.int .i64 0] 3)
  have B4x := B4.alloc (.cells #[.int .i64 0] 3)
  have BSx := BS.alloc (.cells #[.int .i64 0] 3)
  have B7x := Boxed.new Wt0 3 (.int .i64 0)
  have bWx := bW.alloc bW.size (.cells #[.int .i64 0] 3)
  have L7 : Wt0.heap.size < (Wt0.alloc (.cells #[.int .i64 0] 3)).heap.size := B7x.lt
  have LS := BSx.lt
  have LS0 := BS.lt
  clear B3 B4 BS bW 
  generalize Wt0.alloc (.cells #[.int .i64 0] 3) = WX0 at *
  generalize Wt0.heap.size = b70 at *
  clear Wt0
  refine (wpIn_wide (n := 3)).1 ?_
  refine range_boxed (F := Fence.wide) rfl (by decide) (gf := 48) (lb := #[.pointer (some ⟨w.heap.size + 2, 0, none⟩)]) rfl trivial (enters_of Try.func48 (by kernel_rfl) rfl)
    (HQ.out 2 (w.heap.size + 2) WX0 (by decide) (HS.out _ _ hST0 bWx) LS BSx.cell) KT.trans (KT.putObj (w := WX0)) (Below.refl _ _) (fun _ => rfl)
    (fun (pre : List StrSL) W => ((((Boxed W w.heap.size 56 (.slice A 0 c) ∧ Boxed W (w.heap.size + 1) 4 (.bool false)) ∧ Boxed W (w.heap.size + 2) 53 (.pointer p)) ∧ Boxed W b70 3 (.int .i64 (pre.length : Int))) ∧ True) ∧ (Below w.heap.size w W ∧ WX0.heap.size ≤ W.heap.size) ∧ (pre.length ≤ 0 ∧ Likes (vals pre) ws))
    (fun cc (pre : List StrSL) _ => ¬ (pre.length ≤ 0 ∧ Likes (vals pre) ws))
    (OwnFrom.and (OwnFrom.and (OwnFrom.and (OwnFrom.and (OwnFrom.and (Own.from (boxed_own _ _ _) _) (Own.from (boxed_own _ _ _) _)) (Own.from (boxed_own _ _ _) _)) (Own.from (boxed_own _ _ _) _)) (fun _ _ _ _ _ _ _ => trivial)) (OwnFrom.and (OwnFrom.and (ownFrom_below (Nat.le_refl _) (by omega)) (fun s A B row hs hg hr => Nat.le_trans hs hg.size)) (fun _ _ _ _ hs _ _ => hs)))
    (fun _ _ _ _ _ hs _ _ => hs)
    ⟨⟨⟨⟨⟨B3x, B4x⟩, BSx⟩, B7x⟩, trivial⟩, ⟨bWx, Nat.le_refl _⟩, Nat.zero_le _, (fun i s e h => by simp [vals] at h)⟩
    (fun W Bx x => W.cell? ⟨Bx, 0, none⟩ = some (.int .i64 x.1.slot) ∧ W.cell? ⟨Bx, 1, none⟩ = some (.int .i64 x.1.gen))
    (fun a x Bx => { tmps := (((a.tmps.setIfInBounds 20 (.agg #[.int .i64 x.1.slot, .int .i64 x.1.gen])).setIfInBounds 21 x.1.x).setIfInBounds 8 (.pointer (some ⟨Bx, 0, none⟩))).setIfInBounds 9 x.1.x, defers := [] })
    (fun Bx x s A B row hs hg hr => ⟨cell_kept hs.1 hg (fun r e => (hr r e).2), cell_kept hs.2 hg (fun r e => (hr r e).2)⟩)
    ?assign ?body ?done ?stop
  case assign =>
    rintro l pre x W K ⟨⟨⟨⟨⟨B3, B4⟩, BS⟩, B7⟩, _⟩, ⟨hb, hs⟩, hpl, hlk⟩ hK
    gi_wp2
    have h := hK W.heap.size (W.alloc (.cells #[.int .i64 x.1.slot, .int .i64 x.1.gen] 32)) hs ((KeepsOthers.alloc _ _).from _) (KT.below ((Below.refl _ W).alloc (Nat.le_refl _) _)) ⟨⟨⟨⟨⟨B3.alloc _, B4.alloc _⟩, BS.alloc _⟩, B7.alloc _⟩, trivial⟩, ⟨hb.alloc hb.size _, Nat.le_trans hs (by simp)⟩, hpl, hlk⟩ ⟨by simp [go_sem], by simp [go_sem]⟩
    simp only [List.setIfInBounds_toArray, List.set_cons_succ, List.set_cons_zero] at h
    exact h
  case body =>
    rintro l pre ⟨⟨sl, ge, fu, xx⟩, hxs⟩ Bx W hBx ⟨⟨⟨⟨⟨B3, B4⟩, BS⟩, B7⟩, _⟩, ⟨hb, hs⟩, hpl, hlk⟩ ⟨hx0, hx1⟩ hlt
    have hxs2 := hxs
    obtain ⟨b, hxb⟩ : ∃ b : ByteArray, xx = .string b := hxs2
    subst hxb
    simp only [List.setIfInBounds_toArray, List.set_cons_succ, List.set_cons_zero] at hx0 hx1 ⊢
    have c3 := B3.cell; have c4 := B4.cell; have f4 := B4.frozen; have c7 := B7.cell; have f7 := B7.frozen
    have l3 := B3.lt; have l7 := B7.lt
    have lx : Bx < W.heap.size := World.block_lt_of_cell? W _ hx0
    by_cases hin : pre.length < 0
    · exact absurd hin (Nat.not_lt_zero _)
    · have g0 : decide (((0 : Nat) : Int) ≤ (pre.length : Int)) = true := decide_eq_true (by omega)
      have g1 : decide (0 ≤ pre.length) = true := decide_eq_true (by omega)
      gi_wp2_with fail
      refine wpIn_region_bw_round W.heap.size W (Below.refl _ _) (by kernel_rfl) (by kernel_rfl) (by kernel_rfl) ?_
      repeat (gi_big_quiet_step (fail))
      refine wpQuietIn_nil ?_
      intro x
      have B4y : Boxed x.i (w.heap.size + 1) 4 (.bool false) := (x.h.block _ B4.lt).trans B4
      have c4y := B4y.cell; have f4y := B4y.frozen
      gi_wp2_with fail
      exact ⟨(KeepsFrom.of_grownBy (row := none) (below_grown x.h) (fun j e => by cases e)).trans ((KeepsOthers.setCell _ _ _).from _), (fun hh => by have := hh.1; rw [List.length_append, List.length_singleton] at this; omega)⟩
  case stop =>
    rintro D cc pre W _ ⟨k, hk⟩ h _
    refine (h ⟨?_, ?_⟩).elim
    · have := congrArg List.length hk; rw [vals_len, List.length_take] at this; omega
    · rw [hk]; exact HLK.out.take k
  case done =>
    rintro D0 ys Wd0 hD hys ⟨⟨⟨⟨⟨B3, B4⟩, BS⟩, B7⟩, _⟩, ⟨hb, hs⟩, hpl, hlk⟩ HD0r
    have HD0 : Dfr Wd0 D0 := HD0r
    clear HD0r
    have lD0 : w.heap.size < D0 := by omega
    have hyl : ys.length = 0 := by rw [← vals_len, hys]; omega
    rw [hyl] at B7
    have c3 := B3.cell; have c7 := B7.cell
    go_wp2_with fail
    have LD0 : D0 < Wd0.heap.size := HD0.lt
    have LW : w.heap.size + 2 < Wd0.heap.size := BS.lt
    clear B7 hpl hlk hyl hys
    have hJ : OwnFrom Wd0.heap.size (fun (_ : List StrSL) W => ((((Boxed W w.heap.size 56 (.slice A 0 c) ∧ Boxed W (w.heap.size + 1) 4 (.bool false)) ∧ Boxed W (w.heap.size + 2) 53 (.pointer p)) ∧ (True ∧ Dfr W D0)) ∧ (Below w.heap.size w W ∧ Wd0.heap.size ≤ W.heap.size))) := (OwnFrom.and (OwnFrom.and (OwnFrom.and (OwnFrom.and (Own.from (boxed_own _ _ _) _) (Own.from (boxed_own _ _ _) _)) (Own.from (boxed_own _ _ _) _)) (OwnFrom.and (fun _ _ _ _ _ _ _ => trivial) (ownFrom_dfr (by omega)))) (OwnFrom.and (ownFrom_below (Nat.le_refl _) (by omega)) (fun s A B row hs hg hr => Nat.le_trans hs hg.size)))
    refine (wpIn_wide (n := 3)).1 ?_
    refine range_boxed (F := Fence.wide) rfl (by decide) (gf := 48) (lb := #[.pointer (some ⟨w.heap.size + 2, 0, none⟩)]) rfl trivial (enters_of Try.func48 (by kernel_rfl) rfl)
      (HQ.out 2 (w.heap.size + 2) Wd0 (by decide) (HS.out _ _ hST0 hb) BS.lt BS.cell) KT.trans (KT.putObj (w := Wd0)) (Below.refl _ _) (fun _ => rfl)
      (fun (pre : List StrSL) W => ((((Boxed W w.heap.size 56 (.slice A 0 c) ∧ Boxed W (w.heap.size + 1) 4 (.bool false)) ∧ Boxed W (w.heap.size + 2) 53 (.pointer p)) ∧ (True ∧ Dfr W D0)) ∧ (Below w.heap.size w W ∧ Wd0.heap.size ≤ W.heap.size)) ∧ pre.length = 0)
      (fun cc (pre : List StrSL) _ => 0 < pre.length)
      (OwnFrom.and hJ (fun _ _ _ _ hs _ _ => hs))
      (fun _ _ _ _ _ hs _ _ => hs)
      ⟨⟨⟨⟨⟨B3, B4⟩, BS⟩, ⟨trivial, HD0⟩⟩, hb, Nat.le_refl _⟩, rfl⟩
      (fun W Bx x => W.cell? ⟨Bx, 0, none⟩ = some (.int .i64 x.1.slot) ∧ W.cell? ⟨Bx, 1, none⟩ = some (.int .i64 x.1.gen))
      (fun a x Bx => { tmps := ((a.tmps.setIfInBounds 51 (.agg #[.int .i64 x.1.slot, .int .i64 x.1.gen])).setIfInBounds 52 x.1.x).setIfInBounds 10 (.pointer (some ⟨Bx, 0, none⟩)), defers := [] })
      (fun Bx x s A B row hs hg hr => ⟨cell_kept hs.1 hg (fun r e => (hr r e).2), cell_kept hs.2 hg (fun r e => (hr r e).2)⟩)
      ?assign ?body ?done ?stop
    case assign =>
      rintro l pre x W K ⟨⟨⟨⟨⟨B3, B4⟩, BS⟩, ⟨_, HD0⟩⟩, hb, hs⟩, hpl⟩ hK
      gi_wp2
      have h := hK W.heap.size (W.alloc (.cells #[.int .i64 x.1.slot, .int .i64 x.1.gen] 32)) hs ((KeepsOthers.alloc _ _).from _) (KT.below ((Below.refl _ W).alloc (Nat.le_refl _) _)) ⟨⟨⟨⟨⟨B3.alloc _, B4.alloc _⟩, BS.alloc _⟩, ⟨trivial, HD0.below ((Below.refl W.heap.size W).alloc (Nat.le_refl _) _) HD0.lt⟩⟩, hb.alloc hb.size _, Nat.le_trans hs (by simp)⟩, hpl⟩ ⟨by simp [go_sem], by simp [go_sem]⟩
      simp only [List.setIfInBounds_toArray, List.set_cons_succ, List.set_cons_zero] at h
      exact h
    case body =>
      rintro l pre ⟨⟨sl, ge, fu, xx⟩, hxs⟩ Bx W hBx ⟨⟨⟨⟨⟨B3, B4⟩, BS⟩, ⟨_, HD0⟩⟩, hb, hs⟩, hpl⟩ ⟨hx0, hx1⟩ hlt
      simp only [List.setIfInBounds_toArray, List.set_cons_succ, List.set_cons_zero] at hx0 hx1 ⊢
      have c3 := B3.cell; have c4 := B4.cell; have f4 := B4.frozen
      have l3 := B3.lt
      have lx : Bx < W.heap.size := World.block_lt_of_cell? W _ hx0
      gi_wp2_with fail
      refine wpIn_region_bw_round W.heap.size W (Below.refl _ _) (by kernel_rfl) (by kernel_rfl) (by kernel_rfl) ?_
      repeat (gi_big_quiet_step (fail))
      refine wpQuietIn_nil ?_
      intro x
      have B4y : Boxed x.i (w.heap.size + 1) 4 (.bool false) := (x.h.block _ B4.lt).trans B4
      have c4y := B4y.cell; have f4y := B4y.frozen
      gi_wp2_with fail
      exact ⟨(KeepsFrom.of_grownBy (row := none) (below_grown x.h) (fun j e => by cases e)).trans ((KeepsOthers.setCell _ _ _).from _), by show 0 < (pre ++ [_]).length; rw [List.length_append, List.length_singleton]; omega⟩
    case stop =>
      rintro D cc pre W _ ⟨k, hk⟩ h _
      exfalso
      have := congrArg List.length hk; rw [vals_len, List.length_take] at this; omega
    case done =>
      rintro D1 ys Wt1 hD2 _ ⟨⟨⟨⟨⟨B3, B4⟩, BS⟩, ⟨_, HD0⟩⟩, hb, hs⟩, hpl⟩ HD1r
      have HD1 : Dfr Wt1 D1 := HD1r
      clear HD1r
      have lD1 : w.heap.size < D1 := by omega
      have qD0D1 : D0 < D1 := by omega
      clear hJ
      go_wp2_with fail
      rw [rounds_succ]
      clear hD hD2 c3 c7 hs
      have bW := hb
      clear hb
      go_wp2_with fail
      have B3x := B3.alloc (.cells #[.int .i64 0] 3)
      have B4x := B4.alloc (.cells #[.int .i64 0] 3)
      have BSx := BS.alloc (.cells #[.int .i64 0] 3)
      have B7x := Boxed.new Wt1 3 (.int .i64 0)
      have HD0x : Dfr (Wt1.alloc (.cells #[.int .i64 0] 3)) D0 := HD0.below ((Below.refl Wt1.heap.size Wt1).alloc (Nat.le_refl _) _) HD0.lt
      have HD1x : Dfr (Wt1.alloc (.cells #[.int .i64 0] 3)) D1 := HD1.below ((Below.refl Wt1.heap.size Wt1).alloc (Nat.le_refl _) _) HD1.lt
      have LD0 : D0 < (Wt1.alloc (.cells #[.int .i64 0] 3)).heap.size := HD0x.lt
      have LD1 : D1 < (Wt1.alloc (.cells #[.int .i64 0] 3)).heap.size := HD1x.lt
      have bWx := bW.alloc bW.size (.cells #[.int .i64 0] 3)
      have L7 : Wt1.heap.size < (Wt1.alloc (.cells #[.int .i64 0] 3)).heap.size := B7x.lt
      have LS := BSx.lt
      have LS0 := BS.lt
      clear B3 B4 BS bW HD0 HD1
      generalize Wt1.alloc (.cells #[.int .i64 0] 3) = WX1 at *
      generalize Wt1.heap.size = b71 at *
      clear Wt1
      refine (wpIn_wide (n := 3)).1 ?_
      refine range_boxed (F := Fence.wide) rfl (by decide) (gf := 48) (lb := #[.pointer (some ⟨w.heap.size + 2, 0, none⟩)]) rfl trivial (enters_of Try.func48 (by kernel_rfl) rfl)
        (HQ.out 2 (w.heap.size + 2) WX1 (by decide) (HS.out _ _ hST0 bWx) LS BSx.cell) KT.trans (KT.putObj (w := WX1)) (Below.refl _ _) (fun _ => rfl)
        (fun (pre : List StrSL) W => ((((Boxed W w.heap.size 56 (.slice A 0 c) ∧ Boxed W (w.heap.size + 1) 4 (.bool false)) ∧ Boxed W (w.heap.size + 2) 53 (.pointer p)) ∧ Boxed W b71 3 (.int .i64 (pre.length : Int))) ∧ ((True ∧ Dfr W D0) ∧ Dfr W D1)) ∧ (Below w.heap.size w W ∧ WX1.heap.size ≤ W.heap.size) ∧ (pre.length ≤ 0 ∧ Likes (vals pre) ws))
        (fun cc (pre : List StrSL) _ => ¬ (pre.length ≤ 0 ∧ Likes (vals pre) ws))
        (OwnFrom.and (OwnFrom.and (OwnFrom.and (OwnFrom.and (OwnFrom.and (Own.from (boxed_own _ _ _) _) (Own.from (boxed_own _ _ _) _)) (Own.from (boxed_own _ _ _) _)) (Own.from (boxed_own _ _ _) _)) (OwnFrom.and (OwnFrom.and (fun _ _ _ _ _ _ _ => trivial) (ownFrom_dfr (by omega))) (ownFrom_dfr (by omega)))) (OwnFrom.and (OwnFrom.and (ownFrom_below (Nat.le_refl _) (by omega)) (fun s A B row hs hg hr => Nat.le_trans hs hg.size)) (fun _ _ _ _ hs _ _ => hs)))
        (fun _ _ _ _ _ hs _ _ => hs)
        ⟨⟨⟨⟨⟨B3x, B4x⟩, BSx⟩, B7x⟩, ⟨⟨trivial, HD0x⟩, HD1x⟩⟩, ⟨bWx, Nat.le_refl _⟩, Nat.zero_le _, (fun i s e h => by simp [vals] at h)⟩
        (fun W Bx x => W.cell? ⟨Bx, 0, none⟩ = some (.int .i64 x.1.slot) ∧ W.cell? ⟨Bx, 1, none⟩ = some (.int .i64 x.1.gen))
        (fun a x Bx => { tmps := (((a.tmps.setIfInBounds 20 (.agg #[.int .i64 x.1.slot, .int .i64 x.1.gen])).setIfInBounds 21 x.1.x).setIfInBounds 8 (.pointer (some ⟨Bx, 0, none⟩))).setIfInBounds 9 x.1.x, defers := [] })
        (fun Bx x s A B row hs hg hr => ⟨cell_kept hs.1 hg (fun r e => (hr r e).2), cell_kept hs.2 hg (fun r e => (hr r e).2)⟩)
        ?assign ?body ?done ?stop
      case assign =>
        rintro l pre x W K ⟨⟨⟨⟨⟨B3, B4⟩, BS⟩, B7⟩, ⟨⟨_, HD0⟩, HD1⟩⟩, ⟨hb, hs⟩, hpl, hlk⟩ hK
        gi_wp2
        have h := hK W.heap.size (W.alloc (.cells #[.int .i64 x.1.slot, .int .i64 x.1.gen] 32)) hs ((KeepsOthers.alloc _ _).from _) (KT.below ((Below.refl _ W).alloc (Nat.le_refl _) _)) ⟨⟨⟨⟨⟨B3.alloc _, B4.alloc _⟩, BS.alloc _⟩, B7.alloc _⟩, ⟨⟨trivial, HD0.below ((Below.refl W.heap.size W).alloc (Nat.le_refl _) _) HD0.lt⟩, HD1.below ((Below.refl W.heap.size W).alloc (Nat.le_refl _) _) HD1.lt⟩⟩, ⟨hb.alloc hb.size _, Nat.le_trans hs (by simp)⟩, hpl, hlk⟩ ⟨by simp [go_sem], by simp [go_sem]⟩
        simp only [List.setIfInBounds_toArray, List.set_cons_succ, List.set_cons_zero] at h
        exact h
      case body =>
        rintro l pre ⟨⟨sl, ge, fu, xx⟩, hxs⟩ Bx W hBx ⟨⟨⟨⟨⟨B3, B4⟩, BS⟩, B7⟩, ⟨⟨_, HD0⟩, HD1⟩⟩, ⟨hb, hs⟩, hpl, hlk⟩ ⟨hx0, hx1⟩ hlt
        have hxs2 := hxs
        obtain ⟨b, hxb⟩ : ∃ b : ByteArray, xx = .string b := hxs2
        subst hxb
        simp only [List.setIfInBounds_toArray, List.set_cons_succ, List.set_cons_zero] at hx0 hx1 ⊢
        have c3 := B3.cell; have c4 := B4.cell; have f4 := B4.frozen; have c7 := B7.cell; have f7 := B7.frozen
        have l3 := B3.lt; have l7 := B7.lt
        have lx : Bx < W.heap.size := World.block_lt_of_cell? W _ hx0
        by_cases hin : pre.length < 0
        · exact absurd hin (Nat.not_lt_zero _)
        · have g0 : decide (((0 : Nat) : Int) ≤ (pre.length : Int)) = true := decide_eq_true (by omega)
          have g1 : decide (0 ≤ pre.length) = true := decide_eq_true (by omega)
          gi_wp2_with fail
          refine wpIn_region_bw_round W.heap.size W (Below.refl _ _) (by kernel_rfl) (by kernel_rfl) (by kernel_rfl) ?_
          repeat (gi_big_quiet_step (fail))
          refine wpQuietIn_nil ?_
          intro x
          have B4y : Boxed x.i (w.heap.size + 1) 4 (.bool false) := (x.h.block _ B4.lt).trans B4
          have c4y := B4y.cell; have f4y := B4y.frozen
          gi_wp2_with fail
          exact ⟨(KeepsFrom.of_grownBy (row := none) (below_grown x.h) (fun j e => by cases e)).trans ((KeepsOthers.setCell _ _ _).from _), (fun hh => by have := hh.1; rw [List.length_append, List.length_singleton] at this; omega)⟩
      case stop =>
        rintro D cc pre W _ ⟨k, hk⟩ h _
        refine (h ⟨?_, ?_⟩).elim
        · have := congrArg List.length hk; rw [vals_len, List.length_take] at this; omega
        · rw [hk]; exact HLK.out.take k
      case done =>
        rintro D2 ys Wd1 hD hys ⟨⟨⟨⟨⟨B3, B4⟩, BS⟩, B7⟩, ⟨⟨_, HD0⟩, HD1⟩⟩, ⟨hb, hs⟩, hpl, hlk⟩ HD2r
        have HD2 : Dfr Wd1 D2 := HD2r
        clear HD2r
        have lD2 : w.heap.size < D2 := by omega
        have qD0D2 : D0 < D2 := by omega
        have qD1D2 : D1 < D2 := by omega
        have hyl : ys.length = 0 := by rw [← vals_len, hys]; omega
        rw [hyl] at B7
        have c3 := B3.cell; have c7 := B7.cell
        go_wp2_with fail
        have LD0 : D0 < Wd1.heap.size := HD0.lt
        have LD1 : D1 < Wd1.heap.size := HD1.lt
        have LD2 : D2 < Wd1.heap.size := HD2.lt
        have LW : w.heap.size + 2 < Wd1.heap.size := BS.lt
        clear B7 hpl hlk hyl hys
        have hJ : OwnFrom Wd1.heap.size (fun (_ : List StrSL) W => ((((Boxed W w.heap.size 56 (.slice A 0 c) ∧ Boxed W (w.heap.size + 1) 4 (.bool false)) ∧ Boxed W (w.heap.size + 2) 53 (.pointer p)) ∧ (((True ∧ Dfr W D0) ∧ Dfr W D1) ∧ Dfr W D2)) ∧ (Below w.heap.size w W ∧ Wd1.heap.size ≤ W.heap.size))) := (OwnFrom.and (OwnFrom.and (OwnFrom.and (OwnFrom.and (Own.from (boxed_own _ _ _) _) (Own.from (boxed_own _ _ _) _)) (Own.from (boxed_own _ _ _) _)) (OwnFrom.and (OwnFrom.and (OwnFrom.and (fun _ _ _ _ _ _ _ => trivial) (ownFrom_dfr (by omega))) (ownFrom_dfr (by omega))) (ownFrom_dfr (by omega)))) (OwnFrom.and (ownFrom_below (Nat.le_refl _) (by omega)) (fun s A B row hs hg hr => Nat.le_trans hs hg.size)))
        refine (wpIn_wide (n := 3)).1 ?_
        refine range_boxed (F := Fence.wide) rfl (by decide) (gf := 48) (lb := #[.pointer (some ⟨w.heap.size + 2, 0, none⟩)]) rfl trivial (enters_of Try.func48 (by kernel_rfl) rfl)
          (HQ.out 2 (w.heap.size + 2) Wd1 (by decide) (HS.out _ _ hST0 hb) BS.lt BS.cell) KT.trans (KT.putObj (w := Wd1)) (Below.refl _ _) (fun _ => rfl)
          (fun (pre : List StrSL) W => ((((Boxed W w.heap.size 56 (.slice A 0 c) ∧ Boxed W (w.heap.size + 1) 4 (.bool false)) ∧ Boxed W (w.heap.size + 2) 53 (.pointer p)) ∧ (((True ∧ Dfr W D0) ∧ Dfr W D1) ∧ Dfr W D2)) ∧ (Below w.heap.size w W ∧ Wd1.heap.size ≤ W.heap.size)) ∧ pre.length = 0)
          (fun cc (pre : List StrSL) _ => 0 < pre.length)
          (OwnFrom.and hJ (fun _ _ _ _ hs _ _ => hs))
          (fun _ _ _ _ _ hs _ _ => hs)
          ⟨⟨⟨⟨⟨B3, B4⟩, BS⟩, ⟨⟨⟨trivial, HD0⟩, HD1⟩, HD2⟩⟩, hb, Nat.le_refl _⟩, rfl⟩
          (fun W Bx x => W.cell? ⟨Bx, 0, none⟩ = some (.int .i64 x.1.slot) ∧ W.cell? ⟨Bx, 1, none⟩ = some (.int .i64 x.1.gen))
          (fun a x Bx => { tmps := ((a.tmps.setIfInBounds 51 (.agg #[.int .i64 x.1.slot, .int .i64 x.1.gen])).setIfInBounds 52 x.1.x).setIfInBounds 10 (.pointer (some ⟨Bx, 0, none⟩)), defers := [] })
          (fun Bx x s A B row hs hg hr => ⟨cell_kept hs.1 hg (fun r e => (hr r e).2), cell_kept hs.2 hg (fun r e => (hr r e).2)⟩)
          ?assign ?body ?done ?stop
        case assign =>
          rintro l pre x W K ⟨⟨⟨⟨⟨B3, B4⟩, BS⟩, ⟨⟨⟨_, HD0⟩, HD1⟩, HD2⟩⟩, hb, hs⟩, hpl⟩ hK
          gi_wp2
          have h := hK W.heap.size (W.alloc (.cells #[.int .i64 x.1.slot, .int .i64 x.1.gen] 32)) hs ((KeepsOthers.alloc _ _).from _) (KT.below ((Below.refl _ W).alloc (Nat.le_refl _) _)) ⟨⟨⟨⟨⟨B3.alloc _, B4.alloc _⟩, BS.alloc _⟩, ⟨⟨⟨trivial, HD0.below ((Below.refl W.heap.size W).alloc (Nat.le_refl _) _) HD0.lt⟩, HD1.below ((Below.refl W.heap.size W).alloc (Nat.le_refl _) _) HD1.lt⟩, HD2.below ((Below.refl W.heap.size W).alloc (Nat.le_refl _) _) HD2.lt⟩⟩, hb.alloc hb.size _, Nat.le_trans hs (by simp)⟩, hpl⟩ ⟨by simp [go_sem], by simp [go_sem]⟩
          simp only [List.setIfInBounds_toArray, List.set_cons_succ, List.set_cons_zero] at h
          exact h
        case body =>
          rintro l pre ⟨⟨sl, ge, fu, xx⟩, hxs⟩ Bx W hBx ⟨⟨⟨⟨⟨B3, B4⟩, BS⟩, ⟨⟨⟨_, HD0⟩, HD1⟩, HD2⟩⟩, hb, hs⟩, hpl⟩ ⟨hx0, hx1⟩ hlt
          simp only [List.setIfInBounds_toArray, List.set_cons_succ, List.set_cons_zero] at hx0 hx1 ⊢
          have c3 := B3.cell; have c4 := B4.cell; have f4 := B4.frozen
          have l3 := B3.lt
          have lx : Bx < W.heap.size := World.block_lt_of_cell? W _ hx0
          gi_wp2_with fail
          refine wpIn_region_bw_round W.heap.size W (Below.refl _ _) (by kernel_rfl) (by kernel_rfl) (by kernel_rfl) ?_
          repeat (gi_big_quiet_step (fail))
          refine wpQuietIn_nil ?_
          intro x
          have B4y : Boxed x.i (w.heap.size + 1) 4 (.bool false) := (x.h.block _ B4.lt).trans B4
          have c4y := B4y.cell; have f4y := B4y.frozen
          gi_wp2_with fail
          exact ⟨(KeepsFrom.of_grownBy (row := none) (below_grown x.h) (fun j e => by cases e)).trans ((KeepsOthers.setCell _ _ _).from _), by show 0 < (pre ++ [_]).length; rw [List.length_append, List.length_singleton]; omega⟩
        case stop =>
          rintro D cc pre W _ ⟨k, hk⟩ h _
          exfalso
          have := congrArg List.length hk; rw [vals_len, List.length_take] at this; omega
        case done =>
          rintro D3 ys Wt2 hD2 _ ⟨⟨⟨⟨⟨B3, B4⟩, BS⟩, ⟨⟨⟨_, HD0⟩, HD1⟩, HD2⟩⟩, hb, hs⟩, hpl⟩ HD3r
          have HD3 : Dfr Wt2 D3 := HD3r
          clear HD3r
          have lD3 : w.heap.size < D3 := by omega
          have qD0D3 : D0 < D3 := by omega
          have qD1D3 : D1 < D3 := by omega
          have qD2D3 : D2 < D3 := by omega
          clear hJ
          go_wp2_with fail
          rw [rounds_succ]
          clear hD hD2 c3 c7 hs
          go_wp2_with fail
          have hfn : fl.length = 0 := by omega
          have K24 := Lib.hid (fun (u : World) (hu : Below w.heap.size w u) => by
            have := HE.out u (HS.out _ _ hST0 hu)
            rw [hfn] at this
            exact this)
          have HB := Lib.hid hb
          have c3 := B3.cell; have l3 := B3.lt; have c4 := B4.cell; have f4 := B4.frozen; have l4 := B4.lt
          clear hfn hn1 hn2
          refine wp_normal2 ?_
          go_region_with (go_at_call 24; refine Calls.mono (K24.out _ (by first | exact HB.out | exact HB.out.drew)) ?_; rintro e w' ⟨rfl, z, rfl⟩; have c32 := (z.h.cell (p := ⟨w.heap.size, 0, none⟩) l3).trans c3; have c42 := (z.h.cell (p := ⟨w.heap.size + 1, 0, none⟩) l4).trans c4; have f42 := (z.h.frozen (p := ⟨w.heap.size + 1, 0, none⟩) l4).trans f4; have hbz := HB.out.drew.trans (z.h.mono HB.out.size))
          all_goals dsimp only
          all_goals go_wp2_with fail
          all_goals (have kD0 : (z.i.setCell ⟨w.heap.size + 1, 0, none⟩ (.bool true)).heap[D0]? = some (.deferred (some [])) := (Below.heap_setCell z.i ⟨w.heap.size + 1, 0, none⟩ (.bool true) D0 (fun e => by have h4 := B4; have hd := HD0; have e' : D0 = w.heap.size + 1 := e; subst e'; have h1 : Wt2.heap[w.heap.size + 1]? = some (.deferred (some [])) := hd; rw [show Wt2.heap[w.heap.size + 1]? = _ from h4] at h1; cases h1)).trans ((z.h.block D0 HD0.lt).trans HD0))
          all_goals (have kD1 : (z.i.setCell ⟨w.heap.size + 1, 0, none⟩ (.bool true)).heap[D1]? = some (.deferred (some [])) := (Below.heap_setCell z.i ⟨w.heap.size + 1, 0, none⟩ (.bool true) D1 (fun e => by have h4 := B4; have hd := HD1; have e' : D1 = w.heap.size + 1 := e; subst e'; have h1 : Wt2.heap[w.heap.size + 1]? = some (.deferred (some [])) := hd; rw [show Wt2.heap[w.heap.size + 1]? = _ from h4] at h1; cases h1)).trans ((z.h.block D1 HD1.lt).trans HD1))
          all_goals (have kD2 : (z.i.setCell ⟨w.heap.size + 1, 0, none⟩ (.bool true)).heap[D2]? = some (.deferred (some [])) := (Below.heap_setCell z.i ⟨w.heap.size + 1, 0, none⟩ (.bool true) D2 (fun e => by have h4 := B4; have hd := HD2; have e' : D2 = w.heap.size + 1 := e; subst e'; have h1 : Wt2.heap[w.heap.size + 1]? = some (.deferred (some [])) := hd; rw [show Wt2.heap[w.heap.size + 1]? = _ from h4] at h1; cases h1)).trans ((z.h.block D2 HD2.lt).trans HD2))
          all_goals (have kD3 : (z.i.setCell ⟨w.heap.size + 1, 0, none⟩ (.bool true)).heap[D3]? = some (.deferred (some [])) := (Below.heap_setCell z.i ⟨w.heap.size + 1, 0, none⟩ (.bool true) D3 (fun e => by have h4 := B4; have hd := HD3; have e' : D3 = w.heap.size + 1 := e; subst e'; have h1 : Wt2.heap[w.heap.size + 1]? = some (.deferred (some [])) := hd; rw [show Wt2.heap[w.heap.size + 1]? = _ from h4] at h1; cases h1)).trans ((z.h.block D3 HD3.lt).trans HD3))
          all_goals (have hc2 : (z.i.setCell ⟨w.heap.size + 1, 0, none⟩ (.bool true)).cell? ⟨w.heap.size + 1, 0, none⟩ = some (.bool true) := World.cell?_setCell_same' _ _ _ (by rw [c42]; rfl))
          all_goals (have hb2 := hbz.setCell (p := ⟨w.heap.size + 1, 0, none⟩) (by show w.heap.size ≤ w.heap.size + 1; omega) (.bool true))
          all_goals generalize z.i.setCell ⟨w.heap.size + 1, 0, none⟩ (.bool true) = U0 at *
          all_goals (have hc3 := cell_kept hc2 (grownBy_putObj' U0 D3 (.deferred none)) (fun r e => by cases e; exact ⟨_, kD3, rfl⟩))
          all_goals (have hb3 := hb2.grown (grownBy_putObj' U0 D3 (.deferred none)) hb2.size (fun j e => by cases e; exact Nat.le_of_lt lD3))
          all_goals (have kD2 : (U0.putObj D3 (.deferred none)).heap[D2]? = some (.deferred (some [])) := (World.putObj_heap_other (by omega : D2 ≠ D3)).trans kD2)
          all_goals (have kD1 : (U0.putObj D3 (.deferred none)).heap[D1]? = some (.deferred (some [])) := (World.putObj_heap_other (by omega : D1 ≠ D3)).trans kD1)
          all_goals (have kD0 : (U0.putObj D3 (.deferred none)).heap[D0]? = some (.deferred (some [])) := (World.putObj_heap_other (by omega : D0 ≠ D3)).trans kD0)
          all_goals refine ⟨by simp, .inl ⟨_, _, rfl, run_takeDeferred kD3, ?_⟩⟩
          all_goals generalize hU1 : U0.putObj D3 (.deferred none) = U1 at *
          all_goals (have hc4 := cell_kept hc3 (grownBy_putObj' U1 D2 (.deferred none)) (fun r e => by cases e; exact ⟨_, kD2, rfl⟩))
          all_goals (have hb4 := hb3.grown (grownBy_putObj' U1 D2 (.deferred none)) hb3.size (fun j e => by cases e; exact Nat.le_of_lt lD2))
          all_goals (have kD1 : (U1.putObj D2 (.deferred none)).heap[D1]? = some (.deferred (some [])) := (World.putObj_heap_other (by omega : D1 ≠ D2)).trans kD1)
          all_goals (have kD0 : (U1.putObj D2 (.deferred none)).heap[D0]? = some (.deferred (some [])) := (World.putObj_heap_other (by omega : D0 ≠ D2)).trans kD0)
          all_goals refine ⟨by simp, .inl ⟨_, _, rfl, run_takeDeferred kD2, ?_⟩⟩
          all_goals generalize hU2 : U1.putObj D2 (.deferred none) = U2 at *
          all_goals (have hc5 := cell_kept hc4 (grownBy_putObj' U2 D1 (.deferred none)) (fun r e => by cases e; exact ⟨_, kD1, rfl⟩))
          all_goals (have hb5 := hb4.grown (grownBy_putObj' U2 D1 (.deferred none)) hb4.size (fun j e => by cases e; exact Nat.le_of_lt lD1))
          all_goals (have kD0 : (U2.putObj D1 (.deferred none)).heap[D0]? = some (.deferred (some [])) := (World.putObj_heap_other (by omega : D0 ≠ D1)).trans kD0)
          all_goals refine ⟨by simp, .inl ⟨_, _, rfl, run_takeDeferred kD1, ?_⟩⟩
          all_goals generalize hU3 : U2.putObj D1 (.deferred none) = U3 at *
          all_goals (have hc6 := cell_kept hc5 (grownBy_putObj' U3 D0 (.deferred none)) (fun r e => by cases e; exact ⟨_, kD0, rfl⟩))
          all_goals (have hb6 := hb5.grown (grownBy_putObj' U3 D0 (.deferred none)) hb5.size (fun j e => by cases e; exact Nat.le_of_lt lD0))
          all_goals refine ⟨by simp, .inl ⟨_, _, rfl, run_takeDeferred kD0, ?_⟩⟩
          all_goals exact ⟨.bool true, by simp [results, Try.results26, go_sem, hc6], gives_of_eq rfl hb6⟩
end
end Go.Proofs.Ytpnegofmebfcgaa
