/- Top: can, walked: can what is left be worth as much. -/
import Derived.Test.YtikjelkehcnjmaaW10
namespace Go.Proofs.Ytikjelkehcnjmaa
open Go.RowKit
set_option linter.unusedVariables false
set_option linter.unusedSimpArgs false
def rl (Y : Nat → Int) (d j : Nat) : List Nat := (List.range j).filter fun r => decide (d ≤ r) && decide (0 < Y r)
def cl (Z : Nat → Int) (T : Nat → Bool) (j : Nat) : List Nat := (List.range j).filter fun c => decide (0 < Z c) && !T c
theorem rl_len (Y : Nat → Int) (d j : Nat) : (rl Y d j).length ≤ j := by have := List.length_filter_le (fun r => decide (d ≤ r) && decide (0 < Y r)) (List.range j); simpa [rl] using this
theorem cl_len (Z : Nat → Int) (T : Nat → Bool) (j : Nat) : (cl Z T j).length ≤ j := by have := List.length_filter_le (fun c => decide (0 < Z c) && !T c) (List.range j); simpa [cl] using this
theorem rl_yes {Y : Nat → Int} {d j : Nat} (h : d ≤ j) (h2 : 0 < Y j) : rl Y d (j + 1) = rl Y d j ++ [j] := by unfold rl; rw [List.range_succ, List.filter_append]; simp [h, h2]
theorem rl_no {Y : Nat → Int} {d j : Nat} (h2 : ¬ 0 < Y j) : rl Y d (j + 1) = rl Y d j := by unfold rl; rw [List.range_succ, List.filter_append]; simp [h2]
theorem rl_zero {Y : Nat → Int} {d j : Nat} (h : j ≤ d) : rl Y d j = [] := by
  unfold rl
  rw [List.filter_eq_nil_iff]
  intro a ha
  have := List.mem_range.1 ha
  simp; omega
theorem cl_yes {Z : Nat → Int} {T : Nat → Bool} {j : Nat} (h : 0 < Z j) (h2 : T j = false) : cl Z T (j + 1) = cl Z T j ++ [j] := by unfold cl; rw [List.range_succ, List.filter_append]; simp [h, h2]
theorem cl_no {Z : Nat → Int} {T : Nat → Bool} {j : Nat} (h : ¬ (0 < Z j ∧ T j = false)) : cl Z T (j + 1) = cl Z T j := by
  unfold cl
  rw [List.range_succ, List.filter_append]
  have : (decide (0 < Z j) && !T j) = false := by
    cases hT : T j with
    | true => simp
    | false => simp [hT] at h ⊢; exact h
  simp [List.filter_cons, this]
theorem rl_mem {Y : Nat → Int} {d j x : Nat} : x ∈ rl Y d j ↔ d ≤ x ∧ x < j ∧ 0 < Y x := by
  unfold rl; rw [List.mem_filter, List.mem_range]; simp; omega
theorem cl_mem {Z : Nat → Int} {T : Nat → Bool} {j x : Nat} : x ∈ cl Z T j ↔ x < j ∧ T x = false ∧ 0 < Z x := by
  unfold cl
  rw [List.mem_filter, List.mem_range, Bool.and_eq_true, decide_eq_true_eq, Bool.not_eq_true']
  exact ⟨fun ⟨a, b, c⟩ => ⟨a, c, b⟩, fun ⟨a, b, c⟩ => ⟨a, c, b⟩⟩
theorem rl_nodup (Y : Nat → Int) (d j : Nat) : (rl Y d j).Nodup := List.Pairwise.filter _ List.nodup_range
theorem cl_nodup (Z : Nat → Int) (T : Nat → Bool) (j : Nat) : (cl Z T j).Nodup := List.Pairwise.filter _ List.nodup_range
noncomputable def canb (m k : Nat) (W : Nat → Nat → Int) (Y Z : Nat → Int) (d : Nat) (T : Nat → Bool) : Bool := @decide (Can m k W Y Z d T) (Classical.propDecidable _)
theorem canb_iff {m k : Nat} {W : Nat → Nat → Int} {Y Z : Nat → Int} {d : Nat} {T : Nat → Bool} : canb m k W Y Z d T = true ↔ Can m k W Y Z d T := @decide_eq_true_iff _ (Classical.propDecidable _)
theorem covb_iff {E : Nat → Nat → Prop} {n : Nat} {L : Nat → Prop} : covb E n L = true ↔ Covs E n L := @decide_eq_true_iff _ (Classical.propDecidable _)
theorem Covs.congr {E E' : Nat → Nat → Prop} {n : Nat} {L L' : Nat → Prop} (h : Covs E n L) (hE : ∀ a b, E a b → E' a b) (hl : ∀ x, L' x → L x) : Covs E' n L' := by
  obtain ⟨M, h1, h2⟩ := h
  exact ⟨M, fun x hx => ⟨(h1 x (hl x hx)).1, hE _ _ (h1 x (hl x hx)).2⟩, fun x x' hx hx' => h2 x x' (hl x hx) (hl x' hx')⟩
theorem canb_two (m k : Nat) (W : Nat → Nat → Int) (Y Z : Nat → Int) (d : Nat) (T : Nat → Bool) :
    canb m k W Y Z d T = (covb (fun a b => titb W Y Z d T a b = true) k (· ∈ rl Y d m) && covb (fun a b => titb W Y Z d T b a = true) m (· ∈ cl Z T k)) := by
  rw [Bool.eq_iff_iff, Bool.and_eq_true, canb_iff, covb_iff, covb_iff, can_iff]
  constructor
  · rintro ⟨h1, h2⟩
    exact ⟨h1.congr (fun a b h => titb_iff.2 h) (fun x hx => rl_mem.1 hx), h2.congr (fun a b h => titb_iff.2 h) (fun x hx => cl_mem.1 hx)⟩
  · rintro ⟨h1, h2⟩
    exact ⟨h1.congr (fun a b h => titb_iff.1 h) (fun x hx => rl_mem.2 hx), h2.congr (fun a b h => titb_iff.1 h) (fun x hx => cl_mem.2 hx)⟩
theorem cf25 (args : Array Value) (u : World) : Sem.run Try.prog (callFunc 25 args) u = .ok (.enter 25 args) u := by kernel_rfl
theorem cf28 (args : Array Value) (u : World) : Sem.run Try.prog (callFunc 28 args) u = .ok (.enter 28 args) u := by kernel_rfl
set_option maxRecDepth 20000 in
set_option maxHeartbeats 32000000 in
theorem can_ok {w : World} {bd bt bx by_ bz tb d bg : Nat} {T : Nat → Bool} {m k : Nat} {W : Nat → Nat → Int} {Y Z : Nat → Int} (h : TE w bd bt bx by_ bz tb d T m k W Y Z) (hg : w.heap[bg]? = some (.cells #[tfv bd bt bx by_ bz] 66 (0, 0)))
    (hm : m ≤ 64) (hk : k ≤ 64) (hd : d ≤ m) (hW : ∀ r c, 0 ≤ W r c ∧ W r c ≤ MAXW) (hY : ∀ r, r < m → 0 ≤ Y r ∧ Y r ≤ MAXW) (hZ : ∀ c, c < k → 0 ≤ Z c ∧ Z c ≤ MAXW) :
    Calls Try.prog 26 #[.pointer (some ⟨bd, 0, none⟩), .pointer (some ⟨bx, 0, none⟩), .pointer (some ⟨by_, 0, none⟩), .pointer (some ⟨bz, 0, none⟩), .pointer (some ⟨bt, 0, none⟩), .pointer (some ⟨bg, 0, none⟩)] w (Gives (.bool (canb m k W Y Z d T)) w) := by
  have HTE := Lib.hid h
  have HG := Lib.hid hg
  have HW := Lib.hid hW
  have HY := Lib.hid hY
  have HZ := Lib.hid hZ
  have q0 := cell0_of h.done
  have S0 := MA.start (mem_zero w) 3 1
  clear h hg hW hY hZ
  obtain ⟨i0, hi, hz0, hz1, hz2⟩ := info_parts info3
  go_enter Try.func26, Try.ntmps26
  go_wp2_with fail
  go_loopg [7, 9] (m - d) (fun gk v7 v9 wr => ∃ j : Nat, d ≤ j ∧ gk + j = m ∧ v9 = .int .i64 j ∧ MA w wr [] 3 1 v7 (rl Y d j).length ((rl Y d j).flatMap nint))
  case atStart => exact ⟨d, Nat.le_refl _, by omega, rfl, by rw [rl_zero (Nat.le_refl _)]; exact S0⟩
  case round =>
    clear S0 q0
    obtain ⟨j, hdj, hj, rfl, S⟩ := hrel
    have E := HTE.out.below S.mem.below
    have q1 := cell0_of E.box
    have q2 := E.tab.rows
    by_cases hjm : j < m
    · have q3 := icell_of E.ys (j := j) (by omega)
      clear E
      by_cases hy : 0 < Y j
      · have hl := rl_len Y d j
        have HR := Lib.hid (rl_yes hdj hy)
        go_wp2_with (first
          | (at_builtin; refine wpList_pushM rfl (.tmp 24) (.tmp 26) 25 (by rfl) i0 (.int .i64 0) 8 Try.underlying25 hi hz0 hz1 hz2 rfl (by decide) S (by rfl) #[.int .i64 j] (by rfl) rfl (int_one _) (by omega) (by decide) ?_; intro g cap w6 S6)
          | fail)
        go_roundg (gk - 1)
        case measure => omega
        case rel => exact ⟨j + 1, by omega, by omega, by go_num, by rw [HR.out, List.flatMap_append, List.length_append]; exact S6⟩
      · have HR := Lib.hid (rl_no (d := d) hy)
        go_wp2_with fail
        go_roundg (gk - 1)
        case measure => omega
        case rel => exact ⟨j + 1, by omega, by omega, by go_num, by rw [HR.out]; exact S⟩
    · obtain rfl : j = m := by omega
      clear hj hjm hdj
      clear E
      have hb1 := S.mem.below
      obtain ⟨A, c, rfl, hnc, hRd⟩ := rd_of_own (cells := nint) (fun _ => rfl) S.own rfl
      have HRD := Lib.hid hRd
      clear hRd S hnc
      go_wp2_with fail
      clear q1 q2
      have HB1 := Lib.hid hb1
      have HTE1 := Lib.hid (HTE.out.below hb1)
      have S0 := MA.start (mem_zero wr) 3 1
      have hg1 := (hb1.block bg (lt_of_block HG.out)).trans HG.out
      have HG1 := Lib.hid hg1
      clear hb1 hg1
      generalize wr = w1 at *
      go_loopg [8, 10] k (fun gk v8 v10 wr => ∃ j : Nat, gk + j = k ∧ v10 = .int .i64 j ∧ MA w1 wr [] 3 1 v8 (cl Z T j).length ((cl Z T j).flatMap nint))
      case atStart => exact ⟨0, rfl, rfl, S0⟩
      case round =>
        clear S0
        obtain ⟨i, hi1, rfl, S⟩ := hrel
        have E := HTE1.out.below S.mem.below
        have q1 := cell0_of E.box
        have q2 := E.tab.cols
        by_cases hik : i < k
        · have q3 := icell_of E.zs (j := i) (by omega)
          have q4 := bcell_of E.taken (j := i) (by omega)
          clear E
          by_cases hz : 0 < Z i
          · have dz : decide (0 < Z i) = true := decide_eq_true hz
            cases hT : T i with
            | true =>
              rw [hT] at q4
              have HR := Lib.hid (cl_no (Z := Z) (T := T) (j := i) (fun h => by rw [hT] at h; cases h.2))
              clear hT
              go_wp2_with fail
              go_roundg (gk - 1)
              case measure => omega
              case rel => exact ⟨i + 1, by omega, by go_num, by rw [HR.out]; exact S⟩
            | false =>
              rw [hT] at q4
              have hl := cl_len Z T i
              have HR := Lib.hid (cl_yes hz hT)
              clear hT
              go_wp2_with (first
                | (at_builtin; refine wpList_pushM rfl (.tmp 46) (.tmp 48) 25 (by rfl) i0 (.int .i64 0) 8 Try.underlying25 hi hz0 hz1 hz2 rfl (by decide) S (by rfl) #[.int .i64 i] (by rfl) rfl (int_one _) (by omega) (by decide) ?_; intro g cap w6 S6)
                | fail)
              go_roundg (gk - 1)
              case measure => omega
              case rel => exact ⟨i + 1, by omega, by go_num, by rw [HR.out, List.flatMap_append, List.length_append]; exact S6⟩
          · have dz : decide (0 < Z i) = false := decide_eq_false hz
            have HR := Lib.hid (cl_no (Z := Z) (T := T) (j := i) (fun h => hz h.1))
            go_wp2_with fail
            go_roundg (gk - 1)
            case measure => omega
            case rel => exact ⟨i + 1, by omega, by go_num, by rw [HR.out]; exact S⟩
        · obtain rfl : i = k := by omega
          clear hi1 hik E
          have hb2 := S.mem.below
          obtain ⟨A2, c2, rfl, hnc2, hRd2⟩ := rd_of_own (cells := nint) (fun _ => rfl) S.own rfl
          clear S hnc2
          have hRd1 := (HRD.out.below hb2).up hb2.size
          have E2 := HTE1.out.below hb2
          have hg2 := (hb2.block bg (lt_of_block HG1.out)).trans HG1.out
          have HBB := Lib.hid (HB1.out.trans (hb2.mono HB1.out.size))
          go_wp2_with fail
          have C1 : ∀ x : BW wr.heap.size wr, Calls Try.prog 27 #[.slice A (rl Y d j).length c, .int .i64 i, tfv bd bt bx by_ bz] x.i (Gives (.bool (covb (fun a b => titb W Y Z d T a b = true) i (· ∈ rl Y d j))) x.i) := fun x =>
            covers_ok ((hRd1.below x.h).up x.size) hk (Nat.le_trans (rl_len Y d j) hm) (rl_nodup _ _ _) cf25 fun u hu a b ha hb => by
              have hu2 := x.h.trans (hu.mono x.size)
              have hma := rl_mem.1 ha
              exact tight_ok (E2.below hu2) (by omega) (by omega) (HW.out a b) (HY.out a hma.2.1) (HZ.out b hb)
          have C2 : ∀ x : BW wr.heap.size wr, Calls Try.prog 27 #[.slice A2 (cl Z T i).length c2, .int .i64 j, .func (.func 28) #[] #[.pointer (some ⟨bg, 0, none⟩)]] x.i (Gives (.bool (covb (fun a b => titb W Y Z d T b a = true) j (· ∈ cl Z T i))) x.i) := fun x =>
            covers_ok ((hRd2.below x.h).up x.size) hm (Nat.le_trans (cl_len Z T i) hk) (cl_nodup _ _ _) cf28 fun u hu a b ha hb => by
              have hu2 := x.h.trans (hu.mono x.size)
              have hma := cl_mem.1 ha
              exact turned_ok ((hu2.block bg (lt_of_block hg2)).trans hg2) (E2.below hu2) (by omega) (by omega) (HW.out b a) (HY.out b hb) (HZ.out a hma.1)
          have q5 := cell0_of hg2
          have l1 := lt_of_block hg2
          have l2 := lt_of_block E2.box
          have l3 := lt_of_block E2.tab
          have q6 := cell0_of E2.box
          have q7 := E2.tab.rows
          have q8 := E2.tab.cols
          clear hRd1 hRd2 E2 hg2 hb2
          generalize hb1 : covb (fun a b => titb W Y Z d T a b = true) i (· ∈ rl Y d j) = b1 at C1
          generalize hb2 : covb (fun a b => titb W Y Z d T b a = true) j (· ∈ cl Z T i) = b2 at C2
          have HC1 := Lib.hid C1
          have HC2 := Lib.hid C2
          have HE := Lib.hid (And.intro hb1 hb2)
          clear C1 C2 hb1 hb2
          unfold tfv at q5
          generalize (rl Y d j).length = n1 at *
          generalize (cl Z T i).length = n2 at *
          cases b1 with
          | true =>
            refine wp_region_bw wr.heap.size _ (Below.refl _ _) (by kernel_rfl) (by kernel_rfl) ?_
            repeat (go_big_quiet_step (fail))
            go_big_quiet_step ((go_at_call 27; exact Calls.bw_of (Nat.le_refl _) (HC1.out _)))
            repeat (go_big_quiet_step (fail))
            go_big_quiet_step ((go_at_call 27; exact Calls.bw_of (Nat.le_refl _) (HC2.out _)))
            repeat (go_big_quiet_step (fail))
            refine wpQuiet_nil ?_
            intro x
            go_wp2_with fail
            go_ret
            exact gives_of_eq (by rw [canb_two, HE.out.1, HE.out.2]; rfl) (HBB.out.trans (x.h.mono HBB.out.size))
          | false =>
            refine wp_region_bw wr.heap.size _ (Below.refl _ _) (by kernel_rfl) (by kernel_rfl) ?_
            repeat (go_big_quiet_step (fail))
            go_big_quiet_step ((go_at_call 27; exact Calls.bw_of (Nat.le_refl _) (HC1.out _)))
            repeat (go_big_quiet_step (fail))
            refine wpQuiet_nil ?_
            intro x
            go_wp2_with fail
            go_ret
            exact gives_of_eq (by rw [canb_two, HE.out.1, HE.out.2]; rfl) (HBB.out.trans (x.h.mono HBB.out.size))
end Go.Proofs.Ytikjelkehcnjmaa
