/- Top: tight, walked, and tight turned. -/
import Derived.Test.YtikjelkehcnjmaaW7
namespace Go.Proofs.Ytikjelkehcnjmaa
open Go.RowKit
set_option linter.unusedVariables false
set_option linter.unusedSimpArgs false
def titb (W : Nat → Nat → Int) (Y Z : Nat → Int) (d : Nat) (T : Nat → Bool) (r c : Nat) : Bool := decide (d ≤ r) && (!T c && (decide (0 < W r c) && decide (W r c = Y r + Z c)))
theorem titb_iff {W : Nat → Nat → Int} {Y Z : Nat → Int} {d : Nat} {T : Nat → Bool} {r c : Nat} : titb W Y Z d T r c = true ↔ Tit W Y Z d T r c := by
  unfold titb Tit
  simp [Bool.and_eq_true]
/-- what tight has caught -/
structure TE (w : World) (bd bt bx by_ bz tb d : Nat) (T : Nat → Bool) (m k : Nat) (W : Nat → Nat → Int) (Y Z : Nat → Int) : Prop where
  done : w.heap[bd]? = some (.cells #[.int .i64 d] 3 (0, 0))
  taken : w.heap[bt]? = some (.cells (barr 64 T) 54 (0, 0))
  box : w.heap[bx]? = some (.cells #[.pointer (some ⟨tb, 0, none⟩)] 42 (0, 0))
  tab : Tab w tb m k W
  ys : w.heap[by_]? = some (.cells (iarr 64 Y) 44 (0, 0))
  zs : w.heap[bz]? = some (.cells (iarr 64 Z) 44 (0, 0))
theorem lt_of_block {w : World} {b : Nat} {o : Obj} (h : w.heap[b]? = some o) : b < w.heap.size := (Array.getElem?_eq_some_iff.1 h).1
section
variable {w u : World} {bd bt bx by_ bz tb d : Nat} {T : Nat → Bool} {m k : Nat} {W : Nat → Nat → Int} {Y Z : Nat → Int}
theorem TE.below (h : TE w bd bt bx by_ bz tb d T m k W Y Z) (hb : Below w.heap.size w u) : TE u bd bt bx by_ bz tb d T m k W Y Z :=
  ⟨(hb.block _ (lt_of_block h.done)).trans h.done, (hb.block _ (lt_of_block h.taken)).trans h.taken, (hb.block _ (lt_of_block h.box)).trans h.box, h.tab.below hb (lt_of_block h.tab), (hb.block _ (lt_of_block h.ys)).trans h.ys, (hb.block _ (lt_of_block h.zs)).trans h.zs⟩
theorem icell_of {w : World} {b n : Nat} {f : Nat → Int} {t : TypeId} (h : w.heap[b]? = some (.cells (iarr n f) t (0, 0))) {j : Nat} (hj : j < n) : w.cell? ⟨b, j, none⟩ = some (.int .i64 (f j)) := by
  rw [cell_of_row w b j _ _ _ h]; exact arr_get _ hj
theorem bcell_of {w : World} {b n : Nat} {f : Nat → Bool} {t : TypeId} (h : w.heap[b]? = some (.cells (barr n f) t (0, 0))) {j : Nat} (hj : j < n) : w.cell? ⟨b, j, none⟩ = some (.bool (f j)) := by
  rw [cell_of_row w b j _ _ _ h]; exact arr_get _ hj
theorem cell0_of {w : World} {b : Nat} {v : Value} {t : TypeId} (h : w.heap[b]? = some (.cells #[v] t (0, 0))) : w.cell? ⟨b, 0, none⟩ = some v := by
  rw [cell_of_row w b 0 _ _ _ h]; rfl
set_option maxRecDepth 20000 in
set_option maxHeartbeats 32000000 in
theorem tight_ok (h : TE w bd bt bx by_ bz tb d T m k W Y Z) {r c : Nat} (hr : r < 64) (hc : c < 64) (hw : 0 ≤ W r c ∧ W r c ≤ MAXW) (hy : 0 ≤ Y r ∧ Y r ≤ MAXW) (hz : 0 ≤ Z c ∧ Z c ≤ MAXW) :
    Calls Try.prog 25 #[.int .i64 r, .int .i64 c, .pointer (some ⟨bd, 0, none⟩), .pointer (some ⟨bt, 0, none⟩), .pointer (some ⟨bx, 0, none⟩), .pointer (some ⟨by_, 0, none⟩), .pointer (some ⟨bz, 0, none⟩)] w (Gives (.bool (titb W Y Z d T r c)) w) := by
  unfold MAXW at hw hy hz
  have q0 := cell0_of h.done
  have q1 := bcell_of h.taken (j := c) hc
  have q2 := cell0_of h.box
  have q3 := h.tab.w hr hc rfl
  have q4 := icell_of h.ys (j := r) hr
  have q5 := icell_of h.zs (j := c) hc
  have l0 := lt_of_block h.done
  have l1 := lt_of_block h.taken
  have l2 := lt_of_block h.box
  have l3 := lt_of_block h.tab
  have l4 := lt_of_block h.ys
  have l5 := lt_of_block h.zs
  clear h
  by_cases h1 : d ≤ r
  · have d1 : decide (d ≤ r) = true := decide_eq_true h1
    have e1 : decide ((d : Int) ≤ (r : Int)) = true := decide_eq_true (by omega)
    cases ht : T c with
    | true =>
      rw [ht] at q1
      have HT := Lib.hid ht
      have HD := Lib.hid d1
      clear ht
      go_enter Try.func25, Try.ntmps25
      go_wp2_with fail
      refine wp_region_bw w.heap.size _ (Below.refl _ _) (by kernel_rfl) (by kernel_rfl) ?_
      repeat (go_big_quiet_step (fail))
      refine wpQuiet_nil ?_
      intro x
      go_wp2_with fail
      go_ret
      exact gives_of_eq (by unfold titb; rw [HD.out, HT.out]; rfl) x.h
    | false =>
      rw [ht] at q1
      have HT := Lib.hid ht
      have HD := Lib.hid d1
      clear ht
      by_cases h2 : 0 < W r c
      · have d2 : decide (0 < W r c) = true := decide_eq_true h2
        have HW := Lib.hid d2
        by_cases h3 : W r c = Y r + Z c
        · have d3 : decide (W r c = Y r + Z c) = true := decide_eq_true h3
          have HE := Lib.hid d3
          have e3 : (W r c == Y r + Z c) = true := by rw [h3]; exact beq_self_eq_true _
          clear h3
          go_enter Try.func25, Try.ntmps25
          go_wp2_with fail
          refine wp_region_bw w.heap.size _ (Below.refl _ _) (by kernel_rfl) (by kernel_rfl) ?_
          repeat (go_big_quiet_step (fail))
          refine wpQuiet_nil ?_
          intro x
          go_wp2_with fail
          go_ret
          exact gives_of_eq (by unfold titb; rw [HD.out, HT.out, HW.out, HE.out]; rfl) x.h
        · have d3 : decide (W r c = Y r + Z c) = false := decide_eq_false h3
          have HE := Lib.hid d3
          have e3 : (W r c == Y r + Z c) = false := beq_false_of_ne h3
          clear h3
          go_enter Try.func25, Try.ntmps25
          go_wp2_with fail
          refine wp_region_bw w.heap.size _ (Below.refl _ _) (by kernel_rfl) (by kernel_rfl) ?_
          repeat (go_big_quiet_step (fail))
          refine wpQuiet_nil ?_
          intro x
          go_wp2_with fail
          go_ret
          exact gives_of_eq (by unfold titb; rw [HD.out, HT.out, HW.out, HE.out]; rfl) x.h
      · have d2 : decide (0 < W r c) = false := decide_eq_false h2
        have HW := Lib.hid d2
        go_enter Try.func25, Try.ntmps25
        go_wp2_with fail
        refine wp_region_bw w.heap.size _ (Below.refl _ _) (by kernel_rfl) (by kernel_rfl) ?_
        repeat (go_big_quiet_step (fail))
        refine wpQuiet_nil ?_
        intro x
        go_wp2_with fail
        go_ret
        exact gives_of_eq (by unfold titb; rw [HD.out, HT.out, HW.out]; rfl) x.h
  · have d1 : decide (d ≤ r) = false := decide_eq_false h1
    have e1 : decide ((d : Int) ≤ (r : Int)) = false := decide_eq_false (by omega)
    have HD := Lib.hid d1
    go_enter Try.func25, Try.ntmps25
    go_wp2_with fail
    refine wp_region_bw w.heap.size _ (Below.refl _ _) (by kernel_rfl) (by kernel_rfl) ?_
    repeat (go_big_quiet_step (fail))
    refine wpQuiet_nil ?_
    intro x
    go_wp2_with fail
    go_ret
    exact gives_of_eq (by unfold titb; rw [HD.out]; rfl) x.h
/-- tight, as a value -/
def tfv (bd bt bx by_ bz : Nat) : Value := .func (.func 25) #[] #[.pointer (some ⟨bd, 0, none⟩), .pointer (some ⟨bt, 0, none⟩), .pointer (some ⟨bx, 0, none⟩), .pointer (some ⟨by_, 0, none⟩), .pointer (some ⟨bz, 0, none⟩)]
set_option maxRecDepth 20000 in
set_option maxHeartbeats 32000000 in
theorem turned_ok {bg : Nat} (hg : w.heap[bg]? = some (.cells #[tfv bd bt bx by_ bz] 66 (0, 0))) (h : TE w bd bt bx by_ bz tb d T m k W Y Z) {r c : Nat} (hr : r < 64) (hc : c < 64) (hw : 0 ≤ W r c ∧ W r c ≤ MAXW) (hy : 0 ≤ Y r ∧ Y r ≤ MAXW) (hz : 0 ≤ Z c ∧ Z c ≤ MAXW) :
    Calls Try.prog 28 #[.int .i64 c, .int .i64 r, .pointer (some ⟨bg, 0, none⟩)] w (Gives (.bool (titb W Y Z d T r c)) w) := by
  have q0 := cell0_of hg
  have HC := Lib.hid (tight_ok h hr hc hw hy hz)
  clear h hg hw hy hz
  unfold tfv at q0
  go_enter Try.func28, Try.ntmps28
  go_wp2_with fail
  refine HC.out.mono ?_
  rintro e w' ⟨rfl, x, rfl⟩
  go_wp2_with fail
  go_ret
  exact ⟨rfl, x, rfl⟩
end
end Go.Proofs.Ytikjelkehcnjmaa
