/- Slab: what none, and one that nobody made, answer. -/
import Derived.Test.YtpnegofmebfcgaaR3
import Derived.Test.YtpnegofmebfcgaaV2
namespace Go.Proofs.Ytpnegofmebfcgaa
open Go.RowKit Go.Shelf
attribute [local go_sem] BW.cell BW.frozen Oper.semAt_some
set_option linter.unusedVariables false
set_option linter.unusedSimpArgs false

/-- none, or one that nobody made -/
def Vd (w : World) (p : Option Addr) : Prop := p = none ∨ ∃ b, p = some ⟨b, 0, none⟩ ∧ w.cell? ⟨b, 0, none⟩ = some (.slice none 0 0)
theorem Vd.below {w w' : World} {p : Option Addr} (h : Vd w p) (hb : Below w.heap.size w w') : Vd w' p := by
  rcases h with h | ⟨b, h, hc⟩
  · exact .inl h
  · exact .inr ⟨b, h, (hb.cell (p := ⟨b, 0, none⟩) (World.block_lt_of_cell? w _ hc)).trans hc⟩
theorem Vd.alloc {w : World} {p : Option Addr} (h : Vd w p) (o : Obj) : Vd (w.alloc o) p := h.below ((Below.refl _ w).alloc (Nat.le_refl _) o)

set_option maxHeartbeats 2000000 in
theorem find_void (p : Option Addr) (hs hg : Int) (w : World) (h : Vd w p) : Calls Try.prog 49 #[.pointer p, .agg #[.int .i64 hs, .int .i64 hg]] w (Gives (.pointer none) w) := by
  rcases h with rfl | ⟨b, rfl, hp⟩
  · go_enter Try.func49, Try.ntmps49
    go_wp2_with fail
    refine wp_region_bw (w.heap.size + 1) _ (Below.refl _ _) (by kernel_rfl) (by kernel_rfl) ?_
    repeat (go_big_quiet_step (fail))
    refine wpQuiet_nil ?_
    intro x
    go_wp2_with fail
    go_wp2
    go_ret
    exact gives_of_eq rfl (((Below.refl _ w).alloc (Nat.le_refl _) _).trans (x.h.mono (by simp)))
  · have hpl := World.block_lt_of_cell? w _ hp
    simp only at hpl
    by_cases h0 : hs < 0
    · have b0 : decide (hs < 0) = true := decide_eq_true h0
      go_enter Try.func49, Try.ntmps49
      go_wp2_with fail
      refine wp_region_bw (w.heap.size + 1) _ (Below.refl _ _) (by kernel_rfl) (by kernel_rfl) ?_
      repeat (go_big_quiet_step (fail))
      refine wpQuiet_nil ?_
      intro x
      go_wp2_with fail
      go_wp2
      go_ret
      exact gives_of_eq rfl (((Below.refl _ w).alloc (Nat.le_refl _) _).trans (x.h.mono (by simp)))
    · have b0 : decide (hs < 0) = false := decide_eq_false h0
      have b1 : decide (0 ≤ hs) = true := decide_eq_true (by omega)
      go_enter Try.func49, Try.ntmps49
      go_wp2_with fail
      refine wp_region_bw (w.heap.size + 1) _ (Below.refl _ _) (by kernel_rfl) (by kernel_rfl) ?_
      repeat (go_big_quiet_step (fail))
      refine wpQuiet_nil ?_
      intro x
      go_wp2_with fail
      go_wp2
      go_ret
      exact gives_of_eq rfl (((Below.refl _ w).alloc (Nat.le_refl _) _).trans (x.h.mono (by simp)))
set_option maxHeartbeats 2000000 in
theorem get_void (p : Option Addr) (hs hg : Int) (w : World) (h : Vd w p) : Calls Try.prog 39 #[.pointer p, .agg #[.int .i64 hs, .int .i64 hg]] w (Gives (.tuple #[.string .empty, .bool false]) w) := by
  have HV := Lib.hid h
  clear h
  go_enter Try.func39, Try.ntmps39
  go_wp2_with fail
  refine (find_void _ _ _ _ (HV.out.alloc _)).mono ?_
  rintro e w' ⟨rfl, z, rfl⟩
  go_wp2_with fail
  go_ret2
  exact gives_of_eq rfl (((Below.refl _ w).alloc (Nat.le_refl _) _).trans (z.h.mono (by simp)))
set_option maxHeartbeats 2000000 in
theorem set_void (p : Option Addr) (hs hg : Int) (b : ByteArray) (w : World) (h : Vd w p) : Calls Try.prog 45 #[.pointer p, .agg #[.int .i64 hs, .int .i64 hg], .string b] w (Gives (.bool false) w) := by
  have HV := Lib.hid h
  clear h
  go_enter Try.func45, Try.ntmps45
  go_wp2_with fail
  refine (find_void _ _ _ _ (HV.out.alloc _)).mono ?_
  rintro e w' ⟨rfl, z, rfl⟩
  go_wp2_with fail
  go_ret
  exact gives_of_eq rfl (((Below.refl _ w).alloc (Nat.le_refl _) _).trans (z.h.mono (by simp)))
set_option maxHeartbeats 2000000 in
theorem drop_void (p : Option Addr) (hs hg : Int) (w : World) (h : Vd w p) : Calls Try.prog 30 #[.pointer p, .agg #[.int .i64 hs, .int .i64 hg]] w (Gives (.tuple #[.string .empty, .bool false]) w) := by
  have HV := Lib.hid h
  clear h
  go_enter Try.func30, Try.ntmps30
  go_wp2_with fail
  refine (find_void _ _ _ _ (HV.out.alloc _)).mono ?_
  rintro e w' ⟨rfl, z, rfl⟩
  go_wp2_with fail
  go_ret2
  exact gives_of_eq rfl (((Below.refl _ w).alloc (Nat.le_refl _) _).trans (z.h.mono (by simp)))
set_option maxHeartbeats 2000000 in
theorem put_void (p : Option Addr) (b : ByteArray) (w : World) (h : Vd w p) : Calls Try.prog 28 #[.pointer p, .string b] w (Gives (.tuple #[.agg #[.int .i64 0, .int .i64 0], .int .i64 2]) w) := by
  rcases h with rfl | ⟨q, rfl, hp⟩
  · exact puts_nil b w
  · have hpl := World.block_lt_of_cell? w _ hp
    simp only at hpl
    go_enter Try.func28, Try.ntmps28
    go_wp2
    refine bodyPost_ret (v := .tuple #[.agg #[.int .i64 0, .int .i64 0], .int .i64 2]) (by simp [results, Try.results28, go_sem]) rfl (gives_of_eq rfl ?_)
    exact (Below.refl _ w).alloc (Nat.le_refl _) _
set_option maxRecDepth 100000 in
set_option maxHeartbeats 4000000 in
theorem all_void_in (F : Fence) (n : Nat) (hf : F.fn 48) (hro : F.round = none) (hn : 1 ≤ n) (lp Bs : Nat) (p : Option Addr) (W : World) (hBs : W.cell? ⟨Bs, 0, none⟩ = some (.pointer p)) (hp : Vd W p) :
    CallsIn F n Try.prog 48 #[.func (.yield lp) #[] #[], .pointer (some ⟨Bs, 0, none⟩)] W fun e W' => (∃ v, e = .returned v) ∧ W' = W := by
  rcases hp with rfl | ⟨q, rfl, hp⟩
  · refine callsIn_of_wp Try.func48 rfl hf ?_ hro
    simp only [Try.ntmps48, List.size_toArray, List.length_cons, List.length_nil, Nat.reduceAdd, Nat.reduceSub, Array.replicate_succ, Array.replicate_zero, List.push_toArray, List.append_toArray, List.nil_append, List.cons_append]
    gi_wp2
    refine bodyPost_ret (results_none rfl _ _ _) rfl ?_
    exact ⟨⟨_, rfl⟩, rfl⟩
  · have hrun : ∀ w : World, (Builtin.append_ #[61, 61] 61 #[.slice none 0 0, .slice none 0 0]).run Try.prog w = .ok (.slice none 0 0) w := fun w => by
      obtain ⟨i0, hi, hz0, hz1, hz2⟩ := info_parts Try.infoE111
      simp [Builtin.append_, run_underlying Try.underlying61, sizeOf, typeInfo, hi, Builtin.lenOf, Builtin.firstCells, loadCells, loadCellsFrom, storeCells]
    refine callsIn_of_wp Try.func48 rfl hf ?_ hro
    simp only [Try.ntmps48, List.size_toArray, List.length_cons, List.length_nil, Nat.reduceAdd, Nat.reduceSub, Array.replicate_succ, Array.replicate_zero, List.push_toArray, List.append_toArray, List.nil_append, List.cons_append]
    gi_wp2
    gi_loopw [13] (fun v wr => v = .int .i64 0 ∧ wr = W) (fun v _ => 0)
    case atStart => exact ⟨rfl, rfl⟩
    case round =>
      obtain ⟨rfl, rfl⟩ := hrel
      gi_wp2
      go_end0
      exact ⟨⟨_, rfl⟩, rfl⟩
end Go.Proofs.Ytpnegofmebfcgaa
