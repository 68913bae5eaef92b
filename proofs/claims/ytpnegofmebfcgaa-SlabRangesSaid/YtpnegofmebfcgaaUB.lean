/- Slab, base: New, find, Get, Set, Drop, Put of each instance. Merged texts. -/
import Derived.Test.YtpnegofmebfcgaaUA
import Derived.Lib.Hide
import Derived.OwnWalk
/- Slab: find and Get of one instance. -/
namespace Go.Proofs.Ytpnegofmebfcgaa
open Go.RowKit
attribute [local go_sem] BW.cell BW.frozen
set_option linter.unusedVariables false

set_option maxHeartbeats 2000000 in
theorem findp_neg (ps g : Nat) (l : List SL) (hs hg : Int) (w : World) (h : SlabAt 97 w ps g l) (h0 : hs < 0) :
    Calls Try.prog 40 #[.pointer (some ⟨ps, 0, none⟩), .agg #[.int .i64 hs, .int .i64 hg]] w (Gives (.pointer none) w) := by
  have hp := h.ptr
  have hpl := h.pl
  have b0 : decide (hs < 0) = true := decide_eq_true h0
  go_enter Try.func40, Try.ntmps40
  go_wp2_with fail
  refine wp_region_bw (w.heap.size + 1) _ (Below.refl _ _) (by kernel_rfl) (by kernel_rfl) ?_
  repeat (go_big_quiet_step (fail))
  refine wpQuiet_nil ?_
  intro x
  go_wp2_with fail
  go_wp2
  go_ret
  exact gives_of_eq rfl (((Below.refl _ w).alloc (Nat.le_refl _) _).trans (x.h.mono (by simp)))

set_option maxHeartbeats 2000000 in
theorem findp_over (ps g : Nat) (l : List SL) (hs hg : Int) (w : World) (h : SlabAt 97 w ps g l) (h0 : ¬ hs < 0) (h1 : (l.length : Int) ≤ hs) :
    Calls Try.prog 40 #[.pointer (some ⟨ps, 0, none⟩), .agg #[.int .i64 hs, .int .i64 hg]] w (Gives (.pointer none) w) := by
  have hp := h.ptr
  have hpl := h.pl
  have hgl := h.gl
  have b0 : decide (hs < 0) = false := decide_eq_false h0
  have b1 : decide ((l.length : Int) ≤ hs) = true := decide_eq_true h1
  go_enter Try.func40, Try.ntmps40
  go_wp2_with fail
  refine wp_region_bw (w.heap.size + 1) _ (Below.refl _ _) (by kernel_rfl) (by kernel_rfl) ?_
  repeat (go_big_quiet_step (fail))
  refine wpQuiet_nil ?_
  intro x
  go_wp2_with fail
  go_wp2
  go_ret
  exact gives_of_eq rfl (((Below.refl _ w).alloc (Nat.le_refl _) _).trans (x.h.mono (by simp)))

set_option maxHeartbeats 2000000 in
theorem findp_free (ps g : Nat) (l : List SL) (i : Nat) (s : SL) (hg : Int) (w : World) (h : SlabAt 97 w ps g l) (hs' : l[i]? = some s) (hf : s.full = false) :
    Calls Try.prog 40 #[.pointer (some ⟨ps, 0, none⟩), .agg #[.int .i64 i, .int .i64 hg]] w (Gives (.pointer none) w) := by
  have hp := h.ptr
  have hpl := h.pl
  have hgl := h.gl
  have hlt : i < l.length := (List.getElem?_eq_some_iff.1 hs').1
  obtain ⟨c0, c1, c2, c3⟩ := h.at hs'
  have b0 : decide ((i : Int) < 0) = false := decide_eq_false (by omega)
  have b1 : decide ((l.length : Int) ≤ (i : Int)) = false := decide_eq_false (by omega)
  rw [hf] at c2
  go_enter Try.func40, Try.ntmps40
  go_wp2_with fail
  refine wp_region_bw (w.heap.size + 1) _ (Below.refl _ _) (by kernel_rfl) (by kernel_rfl) ?_
  repeat (go_big_quiet_step (fail))
  refine wpQuiet_nil ?_
  intro x
  go_wp2_with fail
  refine wp_region_bw (w.heap.size + 1) _ x.h (by kernel_rfl) (by kernel_rfl) ?_
  repeat (go_big_quiet_step (fail))
  refine wpQuiet_nil ?_
  intro y
  go_wp2_with fail
  refine wp_region_bw (w.heap.size + 1) _ y.h (by kernel_rfl) (by kernel_rfl) ?_
  repeat (go_big_quiet_step (fail))
  refine wpQuiet_nil ?_
  intro z
  go_wp2_with fail
  go_wp2
  go_ret
  exact gives_of_eq rfl (((Below.refl _ w).alloc (Nat.le_refl _) _).trans (z.h.mono (by simp)))

set_option maxHeartbeats 2000000 in
theorem findp_old (ps g : Nat) (l : List SL) (i : Nat) (s : SL) (hg : Int) (w : World) (h : SlabAt 97 w ps g l) (hs' : l[i]? = some s) (hf : s.full = true) (hi : s.slot = i) (hn : ¬ s.gen = hg) :
    Calls Try.prog 40 #[.pointer (some ⟨ps, 0, none⟩), .agg #[.int .i64 i, .int .i64 hg]] w (Gives (.pointer none) w) := by
  have hp := h.ptr
  have hpl := h.pl
  have hgl := h.gl
  have hlt : i < l.length := (List.getElem?_eq_some_iff.1 hs').1
  obtain ⟨c0, c1, c2, c3⟩ := h.at hs'
  have b0 : decide ((i : Int) < 0) = false := decide_eq_false (by omega)
  have b1 : decide ((l.length : Int) ≤ (i : Int)) = false := decide_eq_false (by omega)
  rw [hf] at c2
  rw [hi] at c0
  have b2 : (s.gen == hg) = false := by simpa using hn
  go_enter Try.func40, Try.ntmps40
  go_wp2_with fail
  refine wp_region_bw (w.heap.size + 1) _ (Below.refl _ _) (by kernel_rfl) (by kernel_rfl) ?_
  repeat (go_big_quiet_step (fail))
  refine wpQuiet_nil ?_
  intro x
  go_wp2_with fail
  refine wp_region_bw (w.heap.size + 1) _ x.h (by kernel_rfl) (by kernel_rfl) ?_
  repeat (go_big_quiet_step (fail))
  refine wpQuiet_nil ?_
  intro y
  go_wp2_with fail
  refine wp_region_bw (w.heap.size + 1) _ y.h (by kernel_rfl) (by kernel_rfl) ?_
  repeat (go_big_quiet_step (fail))
  refine wpQuiet_nil ?_
  intro z
  go_wp2_with fail
  go_wp2
  go_ret
  exact gives_of_eq rfl (((Below.refl _ w).alloc (Nat.le_refl _) _).trans (z.h.mono (by simp)))

set_option maxHeartbeats 2000000 in
theorem findp_hit (ps g : Nat) (l : List SL) (i : Nat) (s : SL) (hg : Int) (w : World) (h : SlabAt 97 w ps g l) (hs' : l[i]? = some s) (hf : s.full = true) (hi : s.slot = i) (hn : s.gen = hg) :
    Calls Try.prog 40 #[.pointer (some ⟨ps, 0, none⟩), .agg #[.int .i64 i, .int .i64 hg]] w (Gives (.pointer (some ⟨g, i * 4, none⟩)) w) := by
  have hp := h.ptr
  have hpl := h.pl
  have hgl := h.gl
  have hlt : i < l.length := (List.getElem?_eq_some_iff.1 hs').1
  obtain ⟨c0, c1, c2, c3⟩ := h.at hs'
  have b0 : decide ((i : Int) < 0) = false := decide_eq_false (by omega)
  have b1 : decide ((l.length : Int) ≤ (i : Int)) = false := decide_eq_false (by omega)
  rw [hf] at c2
  rw [hi] at c0
  rw [hn] at c1
  go_enter Try.func40, Try.ntmps40
  go_wp2_with fail
  refine wp_region_bw (w.heap.size + 1) _ (Below.refl _ _) (by kernel_rfl) (by kernel_rfl) ?_
  repeat (go_big_quiet_step (fail))
  refine wpQuiet_nil ?_
  intro x
  go_wp2_with fail
  refine wp_region_bw (w.heap.size + 1) _ x.h (by kernel_rfl) (by kernel_rfl) ?_
  repeat (go_big_quiet_step (fail))
  refine wpQuiet_nil ?_
  intro y
  go_wp2_with fail
  refine wp_region_bw (w.heap.size + 1) _ y.h (by kernel_rfl) (by kernel_rfl) ?_
  repeat (go_big_quiet_step (fail))
  refine wpQuiet_nil ?_
  intro z
  go_wp2_with fail
  go_wp2
  go_ret
  exact gives_of_eq rfl (((Below.refl _ w).alloc (Nat.le_refl _) _).trans (z.h.mono (by simp)))

set_option maxHeartbeats 2000000 in
theorem getp_miss (ps g : Nat) (l : List SL) (hs hg : Int) (w : World) (h : SlabAt 97 w ps g l)
    (K : ∀ w, SlabAt 97 w ps g l → Calls Try.prog 40 #[.pointer (some ⟨ps, 0, none⟩), .agg #[.int .i64 hs, .int .i64 hg]] w (Gives (.pointer none) w)) :
    Calls Try.prog 13 #[.pointer (some ⟨ps, 0, none⟩), .agg #[.int .i64 hs, .int .i64 hg]] w (Gives (.tuple #[.pointer none, .bool false]) w) := by
  have HK := Lib.hid K
  clear K
  go_enter Try.func13, Try.ntmps13
  go_wp2_with fail
  refine (HK.out _ (h.alloc _)).mono ?_
  rintro e w' ⟨rfl, z, rfl⟩
  go_wp2_with fail
  go_ret2
  exact gives_of_eq rfl (((Below.refl _ w).alloc (Nat.le_refl _) _).trans (z.h.mono (by simp)))

set_option maxHeartbeats 2000000 in
theorem getp_hit (ps g i : Nat) (l : List SL) (s : SL) (hs hg : Int) (w : World) (h : SlabAt 97 w ps g l) (hl : l[i]? = some s)
    (K : ∀ w, SlabAt 97 w ps g l → Calls Try.prog 40 #[.pointer (some ⟨ps, 0, none⟩), .agg #[.int .i64 hs, .int .i64 hg]] w (Gives (.pointer (some ⟨g, i * 4, none⟩)) w)) :
    Calls Try.prog 13 #[.pointer (some ⟨ps, 0, none⟩), .agg #[.int .i64 hs, .int .i64 hg]] w (Gives (.tuple #[s.x, .bool true]) w) := by
  have HK := Lib.hid K
  clear K
  go_enter Try.func13, Try.ntmps13
  go_wp2_with fail
  refine (HK.out _ (h.alloc _)).mono ?_
  rintro e w' ⟨rfl, z, rfl⟩
  obtain ⟨c0, c1, c2, c3⟩ := ((h.alloc _).below z.h).at hl
  go_wp2_with fail
  go_ret2
  exact gives_of_eq rfl (((Below.refl _ w).alloc (Nat.le_refl _) _).trans (z.h.mono (by simp)))
end Go.Proofs.Ytpnegofmebfcgaa

/- Slab: New and Drop of one instance. -/
namespace Go.Proofs.Ytpnegofmebfcgaa
open Go.RowKit
attribute [local go_sem] BW.cell BW.frozen
set_option linter.unusedVariables false

set_option maxHeartbeats 1000000 in
theorem newp_lo (n : Int) (w : World) (hn : n < 1) : Calls Try.prog 8 #[.int .i64 n] w (Keeps (.tuple #[.pointer none, .int .i64 1]) w) := by
  go_enter Try.func8, Try.ntmps8
  go_wp2
  go_ret2
  exact keeps_eq rfl
set_option maxHeartbeats 1000000 in
theorem newp_hi (n : Int) (w : World) (h0 : ¬ n < 1) (hn : 4096 < n) : Calls Try.prog 8 #[.int .i64 n] w (Keeps (.tuple #[.pointer none, .int .i64 1]) w) := by
  go_enter Try.func8, Try.ntmps8
  go_wp2
  go_ret2
  exact keeps_eq rfl

theorem Try.info97 : (Try.prog.info? 97).map (fun i => (i.zero, i.size, i.bytes)) = some (some (.agg #[.int .i64 0, .int .i64 0, .bool false, .pointer none]), 4, 32) := by kernel_rfl

set_option maxHeartbeats 2000000 in
theorem dropp_miss (ps g : Nat) (l : List SL) (hs hg : Int) (w : World) (h : SlabAt 97 w ps g l)
    (K : ∀ w, SlabAt 97 w ps g l → Calls Try.prog 40 #[.pointer (some ⟨ps, 0, none⟩), .agg #[.int .i64 hs, .int .i64 hg]] w (Gives (.pointer none) w)) :
    Calls Try.prog 12 #[.pointer (some ⟨ps, 0, none⟩), .agg #[.int .i64 hs, .int .i64 hg]] w (Gives (.tuple #[.pointer none, .bool false]) w) := by
  have HK := Lib.hid K
  clear K
  go_enter Try.func12, Try.ntmps12
  go_wp2_with fail
  refine (HK.out _ (h.alloc _)).mono ?_
  rintro e w' ⟨rfl, z, rfl⟩
  go_wp2_with fail
  go_ret2
  exact gives_of_eq rfl (((Below.refl _ w).alloc (Nat.le_refl _) _).trans (z.h.mono (by simp)))

set_option maxHeartbeats 2000000 in
theorem dropp_hit (ps g i : Nat) (l : List SL) (s : SL) (hs hg : Int) (w : World) (h : SlabAt 97 w ps g l) (hl : l[i]? = some s)
    (K : ∀ w, SlabAt 97 w ps g l → Calls Try.prog 40 #[.pointer (some ⟨ps, 0, none⟩), .agg #[.int .i64 hs, .int .i64 hg]] w (Gives (.pointer (some ⟨g, i * 4, none⟩)) w)) :
    Calls Try.prog 12 #[.pointer (some ⟨ps, 0, none⟩), .agg #[.int .i64 hs, .int .i64 hg]] w fun e w' => e = .returned (.tuple #[s.x, .bool true]) ∧ w.grownBy w' (some g) ∧ SlabAt 97 w' ps g (l.set i { s with full := false, x := .pointer none }) := by
  have HK := Lib.hid K
  clear K
  go_enter Try.func12, Try.ntmps12
  go_wp2_with fail
  refine (HK.out _ (h.alloc _)).mono ?_
  rintro e w' ⟨rfl, z, rfl⟩
  have hz := (h.alloc _).below z.h
  obtain ⟨c0, c1, c2, c3⟩ := hz.at hl
  have f2 := hz.frozen (i * 4 + 2)
  have f3 := hz.frozen (i * 4 + 3)
  have gz : w.grownBy z.i (some g) := ((World.grownBy_alloc w _ (some g))).trans (below_grown z.h)
  go_wp2_with fail
  go_ret2
  refine ⟨rfl, ?_, ?_⟩
  · exact (gz.trans (grownBy_set _ _ _ _)).trans (grownBy_set _ _ _ _)
  · exact hz.drop hl _
end Go.Proofs.Ytpnegofmebfcgaa

/- Slab: Set and Put of one instance. -/
namespace Go.Proofs.Ytpnegofmebfcgaa
open Go.RowKit
attribute [local go_sem] BW.cell BW.frozen
set_option linter.unusedVariables false

set_option maxHeartbeats 4000000 in
theorem putp_hit (ps g i : Nat) (l : List SL) (s : SL) (b : Option Addr) (w : World) (h : SlabAt 97 w ps g l) (hl : l[i]? = some s) (hf : s.full = false) (hb : ∀ j t, j < i → l[j]? = some t → t.full = true)
    (hm : l.length ≤ 4096) (g1 : 0 ≤ s.gen) (g2 : s.gen < 4611686018427387904) :
    Calls Try.prog 10 #[.pointer (some ⟨ps, 0, none⟩), .pointer b] w fun e w' => e = .returned (.tuple #[.agg #[.int .i64 (i : Int), .int .i64 (s.gen + 1)], .int .i64 0]) ∧ w.grownBy w' (some g) ∧ SlabAt 97 w' ps g (l.set i ⟨i, s.gen + 1, true, .pointer b⟩) := by
  have hp := h.ptr
  have hpl := h.pl
  have hgl := h.gl
  have hil : i < l.length := (List.getElem?_eq_some_iff.1 hl).1
  have hn0 : ((l.length : Int) == 0) = false := by simp; intro h0; rw [h0] at hil; simp at hil
  have HB := Lib.hid hb
  have HL := Lib.hid hl
  have HA := Lib.hid h
  clear hb hl h
  generalize hn : l.length = n at *
  go_enter Try.func10, Try.ntmps10
  go_wp2
  go_loopw [24] (fun v wr => ∃ k : Nat, k ≤ i ∧ v = .int .i64 k ∧ Below w.heap.size w wr ∧ wr.cell? ⟨w.heap.size, 0, none⟩ = some (.int .i64 0) ∧ wr.cell? ⟨w.heap.size, 1, none⟩ = some (.int .i64 0) ∧ wr.frozen? ⟨w.heap.size, 0, none⟩ = false ∧ wr.frozen? ⟨w.heap.size, 1, none⟩ = false) (fun v _ => n - (intOf v).toNat)
  case atStart => exact ⟨0, Nat.zero_le _, rfl, (Below.refl _ w).alloc (Nat.le_refl _) _, by simp [go_sem], by simp [go_sem], by simp [go_sem], by simp [go_sem]⟩
  case round =>
    obtain ⟨k, hk, rfl, hbw, o0, o1, of0, of1⟩ := hrel
    have hr := HA.out.below hbw
    have hp' := hr.ptr
    rw [hn] at hp'
    have hkn : k < n := by omega
    by_cases hlt : k < i
    · obtain ⟨t, ht⟩ : ∃ t, l[k]? = some t := ⟨_, List.getElem?_eq_getElem (by omega)⟩
      obtain ⟨c0, c1, c2, c3⟩ := hr.at ht
      rw [HB.out k t hlt ht] at c2
      clear hp
      go_wp2
      go_roundw
      case rel => exact ⟨k + 1, hlt, by go_num, hbw, o0, o1, of0, of1⟩
      case measure => simp [intOf]; omega
    · obtain rfl : k = i := by omega
      obtain ⟨c0, c1, c2, c3⟩ := hr.at HL.out
      rw [hf] at c2
      have f0 := hr.frozen (k * 4)
      have f1 := hr.frozen (k * 4 + 1)
      have f2 := hr.frozen (k * 4 + 2)
      have f3 := hr.frozen (k * 4 + 3)
      have hne : g ≠ w.heap.size := Nat.ne_of_lt hgl
      have HP := Lib.hid (hr.put HL.out ⟨k, s.gen + 1, true, .pointer b⟩)
      clear hp
      go_wp2
      refine bodyPost_ret (v := .tuple #[.agg #[.int .i64 (k : Int), .int .i64 (s.gen + 1)], .int .i64 0]) (by simp [results, Try.results10, go_sem, o0, o1]) rfl ⟨rfl, ?_, ?_⟩
      · exact grownBy_new (grownBy_new (((((below_grown hbw).trans (grownBy_set _ _ _ _)).trans (grownBy_set _ _ _ _)).trans (grownBy_set _ _ _ _)).trans (grownBy_set _ _ _ _)) (Nat.le_refl _) _ _) (Nat.le_refl _) _ _
      · exact (HP.out.far (by omega) hne _ _).far (by omega) hne _ _

set_option maxHeartbeats 4000000 in
theorem putp_full (ps g : Nat) (l : List SL) (b : Option Addr) (w : World) (h : SlabAt 97 w ps g l) (hb : ∀ (j : Nat) t, l[j]? = some t → t.full = true) (hm : l.length ≤ 4096) (h0 : 0 < l.length) :
    Calls Try.prog 10 #[.pointer (some ⟨ps, 0, none⟩), .pointer b] w (Gives (.tuple #[.agg #[.int .i64 0, .int .i64 0], .int .i64 132]) w) := by
  have hp := h.ptr
  have hpl := h.pl
  have hgl := h.gl
  have hn0 : ((l.length : Int) == 0) = false := by simp; intro h1; rw [h1] at h0; simp at h0
  have HB := Lib.hid hb
  have HA := Lib.hid h
  clear hb h
  generalize hn : l.length = n at *
  go_enter Try.func10, Try.ntmps10
  go_wp2
  go_loopw [24] (fun v wr => ∃ k : Nat, k ≤ n ∧ v = .int .i64 k ∧ Below w.heap.size w wr ∧ wr.cell? ⟨w.heap.size, 0, none⟩ = some (.int .i64 0) ∧ wr.cell? ⟨w.heap.size, 1, none⟩ = some (.int .i64 0) ∧ wr.frozen? ⟨w.heap.size, 0, none⟩ = false ∧ wr.frozen? ⟨w.heap.size, 1, none⟩ = false) (fun v _ => n - (intOf v).toNat)
  case atStart => exact ⟨0, Nat.zero_le _, rfl, (Below.refl _ w).alloc (Nat.le_refl _) _, by simp [go_sem], by simp [go_sem], by simp [go_sem], by simp [go_sem]⟩
  case round =>
    obtain ⟨k, hk, rfl, hbw, o0, o1, of0, of1⟩ := hrel
    have hr := HA.out.below hbw
    have hp' := hr.ptr
    rw [hn] at hp'
    by_cases hlt : k < n
    · obtain ⟨t, ht⟩ : ∃ t, l[k]? = some t := ⟨_, List.getElem?_eq_getElem (by omega)⟩
      obtain ⟨c0, c1, c2, c3⟩ := hr.at ht
      rw [HB.out k t ht] at c2
      clear hp
      go_wp2
      go_roundw
      case rel => exact ⟨k + 1, hlt, by go_num, hbw, o0, o1, of0, of1⟩
      case measure => simp [intOf]; omega
    · obtain rfl : k = n := by omega
      clear hp
      go_wp2
      refine bodyPost_ret (v := .tuple #[.agg #[.int .i64 0, .int .i64 0], .int .i64 132]) (by simp [results, Try.results10, go_sem, o0, o1]) rfl (gives_of_eq rfl ?_)
      exact (hbw.setCell (p := ⟨w.heap.size, 0, none⟩) (Nat.le_refl _) _).setCell (p := ⟨w.heap.size, 1, none⟩) (Nat.le_refl _) _

set_option maxHeartbeats 400000 in
theorem putp_nil (b : Option Addr) (w : World) : Calls Try.prog 10 #[.pointer none, .pointer b] w (Gives (.tuple #[.agg #[.int .i64 0, .int .i64 0], .int .i64 2]) w) := by
  go_enter Try.func10, Try.ntmps10
  go_wp2
  refine bodyPost_ret (v := .tuple #[.agg #[.int .i64 0, .int .i64 0], .int .i64 2]) (by simp [results, Try.results10, go_sem]) rfl (gives_of_eq rfl ?_)
  exact (Below.refl _ w).alloc (Nat.le_refl _) _
end Go.Proofs.Ytpnegofmebfcgaa

/- Slab: find and Get of one instance. -/
namespace Go.Proofs.Ytpnegofmebfcgaa
open Go.RowKit
attribute [local go_sem] BW.cell BW.frozen
set_option linter.unusedVariables false

set_option maxHeartbeats 2000000 in
theorem finds_neg (ps g : Nat) (l : List SL) (hs hg : Int) (w : World) (h : SlabAt 111 w ps g l) (h0 : hs < 0) :
    Calls Try.prog 49 #[.pointer (some ⟨ps, 0, none⟩), .agg #[.int .i64 hs, .int .i64 hg]] w (Gives (.pointer none) w) := by
  have hp := h.ptr
  have hpl := h.pl
  have b0 : decide (hs < 0) = true := decide_eq_true h0
  go_enter Try.func49, Try.ntmps49
  go_wp2_with fail
  refine wp_region_bw (w.heap.size + 1) _ (Below.refl _ _) (by kernel_rfl) (by kernel_rfl) ?_
  repeat (go_big_quiet_step (fail))
  refine wpQuiet_nil ?_
  intro x
  go_wp2_with fail
  go_wp2
  go_ret
  exact gives_of_eq rfl (((Below.refl _ w).alloc (Nat.le_refl _) _).trans (x.h.mono (by simp)))

set_option maxHeartbeats 2000000 in
theorem finds_over (ps g : Nat) (l : List SL) (hs hg : Int) (w : World) (h : SlabAt 111 w ps g l) (h0 : ¬ hs < 0) (h1 : (l.length : Int) ≤ hs) :
    Calls Try.prog 49 #[.pointer (some ⟨ps, 0, none⟩), .agg #[.int .i64 hs, .int .i64 hg]] w (Gives (.pointer none) w) := by
  have hp := h.ptr
  have hpl := h.pl
  have hgl := h.gl
  have b0 : decide (hs < 0) = false := decide_eq_false h0
  have b1 : decide ((l.length : Int) ≤ hs) = true := decide_eq_true h1
  go_enter Try.func49, Try.ntmps49
  go_wp2_with fail
  refine wp_region_bw (w.heap.size + 1) _ (Below.refl _ _) (by kernel_rfl) (by kernel_rfl) ?_
  repeat (go_big_quiet_step (fail))
  refine wpQuiet_nil ?_
  intro x
  go_wp2_with fail
  go_wp2
  go_ret
  exact gives_of_eq rfl (((Below.refl _ w).alloc (Nat.le_refl _) _).trans (x.h.mono (by simp)))

set_option maxHeartbeats 2000000 in
theorem finds_free (ps g : Nat) (l : List SL) (i : Nat) (s : SL) (hg : Int) (w : World) (h : SlabAt 111 w ps g l) (hs' : l[i]? = some s) (hf : s.full = false) :
    Calls Try.prog 49 #[.pointer (some ⟨ps, 0, none⟩), .agg #[.int .i64 i, .int .i64 hg]] w (Gives (.pointer none) w) := by
  have hp := h.ptr
  have hpl := h.pl
  have hgl := h.gl
  have hlt : i < l.length := (List.getElem?_eq_some_iff.1 hs').1
  obtain ⟨c0, c1, c2, c3⟩ := h.at hs'
  have b0 : decide ((i : Int) < 0) = false := decide_eq_false (by omega)
  have b1 : decide ((l.length : Int) ≤ (i : Int)) = false := decide_eq_false (by omega)
  rw [hf] at c2
  go_enter Try.func49, Try.ntmps49
  go_wp2_with fail
  refine wp_region_bw (w.heap.size + 1) _ (Below.refl _ _) (by kernel_rfl) (by kernel_rfl) ?_
  repeat (go_big_quiet_step (fail))
  refine wpQuiet_nil ?_
  intro x
  go_wp2_with fail
  refine wp_region_bw (w.heap.size + 1) _ x.h (by kernel_rfl) (by kernel_rfl) ?_
  repeat (go_big_quiet_step (fail))
  refine wpQuiet_nil ?_
  intro y
  go_wp2_with fail
  refine wp_region_bw (w.heap.size + 1) _ y.h (by kernel_rfl) (by kernel_rfl) ?_
  repeat (go_big_quiet_step (fail))
  refine wpQuiet_nil ?_
  intro z
  go_wp2_with fail
  go_wp2
  go_ret
  exact gives_of_eq rfl (((Below.refl _ w).alloc (Nat.le_refl _) _).trans (z.h.mono (by simp)))

set_option maxHeartbeats 2000000 in
theorem finds_old (ps g : Nat) (l : List SL) (i : Nat) (s : SL) (hg : Int) (w : World) (h : SlabAt 111 w ps g l) (hs' : l[i]? = some s) (hf : s.full = true) (hi : s.slot = i) (hn : ¬ s.gen = hg) :
    Calls Try.prog 49 #[.pointer (some ⟨ps, 0, none⟩), .agg #[.int .i64 i, .int .i64 hg]] w (Gives (.pointer none) w) := by
  have hp := h.ptr
  have hpl := h.pl
  have hgl := h.gl
  have hlt : i < l.length := (List.getElem?_eq_some_iff.1 hs').1
  obtain ⟨c0, c1, c2, c3⟩ := h.at hs'
  have b0 : decide ((i : Int) < 0) = false := decide_eq_false (by omega)
  have b1 : decide ((l.length : Int) ≤ (i : Int)) = false := decide_eq_false (by omega)
  rw [hf] at c2
  rw [hi] at c0
  have b2 : (s.gen == hg) = false := by simpa using hn
  go_enter Try.func49, Try.ntmps49
  go_wp2_with fail
  refine wp_region_bw (w.heap.size + 1) _ (Below.refl _ _) (by kernel_rfl) (by kernel_rfl) ?_
  repeat (go_big_quiet_step (fail))
  refine wpQuiet_nil ?_
  intro x
  go_wp2_with fail
  refine wp_region_bw (w.heap.size + 1) _ x.h (by kernel_rfl) (by kernel_rfl) ?_
  repeat (go_big_quiet_step (fail))
  refine wpQuiet_nil ?_
  intro y
  go_wp2_with fail
  refine wp_region_bw (w.heap.size + 1) _ y.h (by kernel_rfl) (by kernel_rfl) ?_
  repeat (go_big_quiet_step (fail))
  refine wpQuiet_nil ?_
  intro z
  go_wp2_with fail
  go_wp2
  go_ret
  exact gives_of_eq rfl (((Below.refl _ w).alloc (Nat.le_refl _) _).trans (z.h.mono (by simp)))

set_option maxHeartbeats 2000000 in
theorem finds_hit (ps g : Nat) (l : List SL) (i : Nat) (s : SL) (hg : Int) (w : World) (h : SlabAt 111 w ps g l) (hs' : l[i]? = some s) (hf : s.full = true) (hi : s.slot = i) (hn : s.gen = hg) :
    Calls Try.prog 49 #[.pointer (some ⟨ps, 0, none⟩), .agg #[.int .i64 i, .int .i64 hg]] w (Gives (.pointer (some ⟨g, i * 4, none⟩)) w) := by
  have hp := h.ptr
  have hpl := h.pl
  have hgl := h.gl
  have hlt : i < l.length := (List.getElem?_eq_some_iff.1 hs').1
  obtain ⟨c0, c1, c2, c3⟩ := h.at hs'
  have b0 : decide ((i : Int) < 0) = false := decide_eq_false (by omega)
  have b1 : decide ((l.length : Int) ≤ (i : Int)) = false := decide_eq_false (by omega)
  rw [hf] at c2
  rw [hi] at c0
  rw [hn] at c1
  go_enter Try.func49, Try.ntmps49
  go_wp2_with fail
  refine wp_region_bw (w.heap.size + 1) _ (Below.refl _ _) (by kernel_rfl) (by kernel_rfl) ?_
  repeat (go_big_quiet_step (fail))
  refine wpQuiet_nil ?_
  intro x
  go_wp2_with fail
  refine wp_region_bw (w.heap.size + 1) _ x.h (by kernel_rfl) (by kernel_rfl) ?_
  repeat (go_big_quiet_step (fail))
  refine wpQuiet_nil ?_
  intro y
  go_wp2_with fail
  refine wp_region_bw (w.heap.size + 1) _ y.h (by kernel_rfl) (by kernel_rfl) ?_
  repeat (go_big_quiet_step (fail))
  refine wpQuiet_nil ?_
  intro z
  go_wp2_with fail
  go_wp2
  go_ret
  exact gives_of_eq rfl (((Below.refl _ w).alloc (Nat.le_refl _) _).trans (z.h.mono (by simp)))

set_option maxHeartbeats 2000000 in
theorem gets_miss (ps g : Nat) (l : List SL) (hs hg : Int) (w : World) (h : SlabAt 111 w ps g l)
    (K : ∀ w, SlabAt 111 w ps g l → Calls Try.prog 49 #[.pointer (some ⟨ps, 0, none⟩), .agg #[.int .i64 hs, .int .i64 hg]] w (Gives (.pointer none) w)) :
    Calls Try.prog 39 #[.pointer (some ⟨ps, 0, none⟩), .agg #[.int .i64 hs, .int .i64 hg]] w (Gives (.tuple #[.string .empty, .bool false]) w) := by
  have HK := Lib.hid K
  clear K
  go_enter Try.func39, Try.ntmps39
  go_wp2_with fail
  refine (HK.out _ (h.alloc _)).mono ?_
  rintro e w' ⟨rfl, z, rfl⟩
  go_wp2_with fail
  go_ret2
  exact gives_of_eq rfl (((Below.refl _ w).alloc (Nat.le_refl _) _).trans (z.h.mono (by simp)))

set_option maxHeartbeats 2000000 in
theorem gets_hit (ps g i : Nat) (l : List SL) (s : SL) (hs hg : Int) (w : World) (h : SlabAt 111 w ps g l) (hl : l[i]? = some s)
    (K : ∀ w, SlabAt 111 w ps g l → Calls Try.prog 49 #[.pointer (some ⟨ps, 0, none⟩), .agg #[.int .i64 hs, .int .i64 hg]] w (Gives (.pointer (some ⟨g, i * 4, none⟩)) w)) :
    Calls Try.prog 39 #[.pointer (some ⟨ps, 0, none⟩), .agg #[.int .i64 hs, .int .i64 hg]] w (Gives (.tuple #[s.x, .bool true]) w) := by
  have HK := Lib.hid K
  clear K
  go_enter Try.func39, Try.ntmps39
  go_wp2_with fail
  refine (HK.out _ (h.alloc _)).mono ?_
  rintro e w' ⟨rfl, z, rfl⟩
  obtain ⟨c0, c1, c2, c3⟩ := ((h.alloc _).below z.h).at hl
  go_wp2_with fail
  go_ret2
  exact gives_of_eq rfl (((Below.refl _ w).alloc (Nat.le_refl _) _).trans (z.h.mono (by simp)))
end Go.Proofs.Ytpnegofmebfcgaa

/- Slab: Set and Put of one instance. -/
namespace Go.Proofs.Ytpnegofmebfcgaa
open Go.RowKit
attribute [local go_sem] BW.cell BW.frozen
set_option linter.unusedVariables false

set_option maxHeartbeats 2000000 in
theorem sets_miss (ps g : Nat) (l : List SL) (hs hg : Int) (b : ByteArray) (w : World) (h : SlabAt 111 w ps g l)
    (K : ∀ w, SlabAt 111 w ps g l → Calls Try.prog 49 #[.pointer (some ⟨ps, 0, none⟩), .agg #[.int .i64 hs, .int .i64 hg]] w (Gives (.pointer none) w)) :
    Calls Try.prog 45 #[.pointer (some ⟨ps, 0, none⟩), .agg #[.int .i64 hs, .int .i64 hg], .string b] w (Gives (.bool false) w) := by
  have HK := Lib.hid K
  clear K
  go_enter Try.func45, Try.ntmps45
  go_wp2_with fail
  refine (HK.out _ (h.alloc _)).mono ?_
  rintro e w' ⟨rfl, z, rfl⟩
  go_wp2_with fail
  go_ret
  exact gives_of_eq rfl (((Below.refl _ w).alloc (Nat.le_refl _) _).trans (z.h.mono (by simp)))

set_option maxHeartbeats 2000000 in
theorem sets_hit (ps g i : Nat) (l : List SL) (s : SL) (hs hg : Int) (b : ByteArray) (w : World) (h : SlabAt 111 w ps g l) (hl : l[i]? = some s)
    (K : ∀ w, SlabAt 111 w ps g l → Calls Try.prog 49 #[.pointer (some ⟨ps, 0, none⟩), .agg #[.int .i64 hs, .int .i64 hg]] w (Gives (.pointer (some ⟨g, i * 4, none⟩)) w)) :
    Calls Try.prog 45 #[.pointer (some ⟨ps, 0, none⟩), .agg #[.int .i64 hs, .int .i64 hg], .string b] w fun e w' => e = .returned (.bool true) ∧ w.grownBy w' (some g) ∧ SlabAt 111 w' ps g (l.set i { s with x := .string b }) := by
  have HK := Lib.hid K
  clear K
  go_enter Try.func45, Try.ntmps45
  go_wp2_with fail
  refine (HK.out _ (h.alloc _)).mono ?_
  rintro e w' ⟨rfl, z, rfl⟩
  have hz := (h.alloc _).below z.h
  obtain ⟨c0, c1, c2, c3⟩ := hz.at hl
  have f3 := hz.frozen (i * 4 + 3)
  have gz : w.grownBy z.i (some g) := ((World.grownBy_alloc w _ (some g))).trans (below_grown z.h)
  go_wp2_with fail
  go_ret
  exact ⟨rfl, gz.trans (grownBy_set _ _ _ _), hz.setx hl _⟩

set_option maxHeartbeats 4000000 in
theorem puts_hit (ps g i : Nat) (l : List SL) (s : SL) (b : ByteArray) (w : World) (h : SlabAt 111 w ps g l) (hl : l[i]? = some s) (hf : s.full = false) (hb : ∀ j t, j < i → l[j]? = some t → t.full = true)
    (hm : l.length ≤ 4096) (g1 : 0 ≤ s.gen) (g2 : s.gen < 4611686018427387904) :
    Calls Try.prog 28 #[.pointer (some ⟨ps, 0, none⟩), .string b] w fun e w' => e = .returned (.tuple #[.agg #[.int .i64 (i : Int), .int .i64 (s.gen + 1)], .int .i64 0]) ∧ w.grownBy w' (some g) ∧ SlabAt 111 w' ps g (l.set i ⟨i, s.gen + 1, true, .string b⟩) := by
  have hp := h.ptr
  have hpl := h.pl
  have hgl := h.gl
  have hil : i < l.length := (List.getElem?_eq_some_iff.1 hl).1
  have hn0 : ((l.length : Int) == 0) = false := by simp; intro h0; rw [h0] at hil; simp at hil
  have HB := Lib.hid hb
  have HL := Lib.hid hl
  have HA := Lib.hid h
  clear hb hl h
  generalize hn : l.length = n at *
  go_enter Try.func28, Try.ntmps28
  go_wp2
  go_loopw [24] (fun v wr => ∃ k : Nat, k ≤ i ∧ v = .int .i64 k ∧ Below w.heap.size w wr ∧ wr.cell? ⟨w.heap.size, 0, none⟩ = some (.int .i64 0) ∧ wr.cell? ⟨w.heap.size, 1, none⟩ = some (.int .i64 0) ∧ wr.frozen? ⟨w.heap.size, 0, none⟩ = false ∧ wr.frozen? ⟨w.heap.size, 1, none⟩ = false) (fun v _ => n - (intOf v).toNat)
  case atStart => exact ⟨0, Nat.zero_le _, rfl, (Below.refl _ w).alloc (Nat.le_refl _) _, by simp [go_sem], by simp [go_sem], by simp [go_sem], by simp [go_sem]⟩
  case round =>
    obtain ⟨k, hk, rfl, hbw, o0, o1, of0, of1⟩ := hrel
    have hr := HA.out.below hbw
    have hp' := hr.ptr
    rw [hn] at hp'
    have hkn : k < n := by omega
    by_cases hlt : k < i
    · obtain ⟨t, ht⟩ : ∃ t, l[k]? = some t := ⟨_, List.getElem?_eq_getElem (by omega)⟩
      obtain ⟨c0, c1, c2, c3⟩ := hr.at ht
      rw [HB.out k t hlt ht] at c2
      clear hp
      go_wp2
      go_roundw
      case rel => exact ⟨k + 1, hlt, by go_num, hbw, o0, o1, of0, of1⟩
      case measure => simp [intOf]; omega
    · obtain rfl : k = i := by omega
      obtain ⟨c0, c1, c2, c3⟩ := hr.at HL.out
      rw [hf] at c2
      have f0 := hr.frozen (k * 4)
      have f1 := hr.frozen (k * 4 + 1)
      have f2 := hr.frozen (k * 4 + 2)
      have f3 := hr.frozen (k * 4 + 3)
      have hne : g ≠ w.heap.size := Nat.ne_of_lt hgl
      have HP := Lib.hid (hr.put HL.out ⟨k, s.gen + 1, true, .string b⟩)
      clear hp
      go_wp2
      refine bodyPost_ret (v := .tuple #[.agg #[.int .i64 (k : Int), .int .i64 (s.gen + 1)], .int .i64 0]) (by simp [results, Try.results28, go_sem, o0, o1]) rfl ⟨rfl, ?_, ?_⟩
      · exact grownBy_new (grownBy_new (((((below_grown hbw).trans (grownBy_set _ _ _ _)).trans (grownBy_set _ _ _ _)).trans (grownBy_set _ _ _ _)).trans (grownBy_set _ _ _ _)) (Nat.le_refl _) _ _) (Nat.le_refl _) _ _
      · exact (HP.out.far (by omega) hne _ _).far (by omega) hne _ _

set_option maxHeartbeats 4000000 in
theorem puts_full (ps g : Nat) (l : List SL) (b : ByteArray) (w : World) (h : SlabAt 111 w ps g l) (hb : ∀ (j : Nat) t, l[j]? = some t → t.full = true) (hm : l.length ≤ 4096) (h0 : 0 < l.length) :
    Calls Try.prog 28 #[.pointer (some ⟨ps, 0, none⟩), .string b] w (Gives (.tuple #[.agg #[.int .i64 0, .int .i64 0], .int .i64 132]) w) := by
  have hp := h.ptr
  have hpl := h.pl
  have hgl := h.gl
  have hn0 : ((l.length : Int) == 0) = false := by simp; intro h1; rw [h1] at h0; simp at h0
  have HB := Lib.hid hb
  have HA := Lib.hid h
  clear hb h
  generalize hn : l.length = n at *
  go_enter Try.func28, Try.ntmps28
  go_wp2
  go_loopw [24] (fun v wr => ∃ k : Nat, k ≤ n ∧ v = .int .i64 k ∧ Below w.heap.size w wr ∧ wr.cell? ⟨w.heap.size, 0, none⟩ = some (.int .i64 0) ∧ wr.cell? ⟨w.heap.size, 1, none⟩ = some (.int .i64 0) ∧ wr.frozen? ⟨w.heap.size, 0, none⟩ = false ∧ wr.frozen? ⟨w.heap.size, 1, none⟩ = false) (fun v _ => n - (intOf v).toNat)
  case atStart => exact ⟨0, Nat.zero_le _, rfl, (Below.refl _ w).alloc (Nat.le_refl _) _, by simp [go_sem], by simp [go_sem], by simp [go_sem], by simp [go_sem]⟩
  case round =>
    obtain ⟨k, hk, rfl, hbw, o0, o1, of0, of1⟩ := hrel
    have hr := HA.out.below hbw
    have hp' := hr.ptr
    rw [hn] at hp'
    by_cases hlt : k < n
    · obtain ⟨t, ht⟩ : ∃ t, l[k]? = some t := ⟨_, List.getElem?_eq_getElem (by omega)⟩
      obtain ⟨c0, c1, c2, c3⟩ := hr.at ht
      rw [HB.out k t ht] at c2
      clear hp
      go_wp2
      go_roundw
      case rel => exact ⟨k + 1, hlt, by go_num, hbw, o0, o1, of0, of1⟩
      case measure => simp [intOf]; omega
    · obtain rfl : k = n := by omega
      clear hp
      go_wp2
      refine bodyPost_ret (v := .tuple #[.agg #[.int .i64 0, .int .i64 0], .int .i64 132]) (by simp [results, Try.results28, go_sem, o0, o1]) rfl (gives_of_eq rfl ?_)
      exact (hbw.setCell (p := ⟨w.heap.size, 0, none⟩) (Nat.le_refl _) _).setCell (p := ⟨w.heap.size, 1, none⟩) (Nat.le_refl _) _

set_option maxHeartbeats 400000 in
theorem puts_nil (b : ByteArray) (w : World) : Calls Try.prog 28 #[.pointer none, .string b] w (Gives (.tuple #[.agg #[.int .i64 0, .int .i64 0], .int .i64 2]) w) := by
  go_enter Try.func28, Try.ntmps28
  go_wp2
  refine bodyPost_ret (v := .tuple #[.agg #[.int .i64 0, .int .i64 0], .int .i64 2]) (by simp [results, Try.results28, go_sem]) rfl (gives_of_eq rfl ?_)
  exact (Below.refl _ w).alloc (Nat.le_refl _) _
end Go.Proofs.Ytpnegofmebfcgaa

/- Slab: New and Drop of one instance. -/
namespace Go.Proofs.Ytpnegofmebfcgaa
open Go.RowKit
attribute [local go_sem] BW.cell BW.frozen
set_option linter.unusedVariables false

set_option maxHeartbeats 1000000 in
theorem news_lo (n : Int) (w : World) (hn : n < 1) : Calls Try.prog 20 #[.int .i64 n] w (Keeps (.tuple #[.pointer none, .int .i64 1]) w) := by
  go_enter Try.func20, Try.ntmps20
  go_wp2
  go_ret2
  exact keeps_eq rfl
set_option maxHeartbeats 1000000 in
theorem news_hi (n : Int) (w : World) (h0 : ¬ n < 1) (hn : 4096 < n) : Calls Try.prog 20 #[.int .i64 n] w (Keeps (.tuple #[.pointer none, .int .i64 1]) w) := by
  go_enter Try.func20, Try.ntmps20
  go_wp2
  go_ret2
  exact keeps_eq rfl

theorem Try.info111 : (Try.prog.info? 111).map (fun i => (i.zero, i.size, i.bytes)) = some (some (.agg #[.int .i64 0, .int .i64 0, .bool false, .string .empty]), 4, 40) := by kernel_rfl

set_option maxHeartbeats 2000000 in
theorem drops_miss (ps g : Nat) (l : List SL) (hs hg : Int) (w : World) (h : SlabAt 111 w ps g l)
    (K : ∀ w, SlabAt 111 w ps g l → Calls Try.prog 49 #[.pointer (some ⟨ps, 0, none⟩), .agg #[.int .i64 hs, .int .i64 hg]] w (Gives (.pointer none) w)) :
    Calls Try.prog 30 #[.pointer (some ⟨ps, 0, none⟩), .agg #[.int .i64 hs, .int .i64 hg]] w (Gives (.tuple #[.string .empty, .bool false]) w) := by
  have HK := Lib.hid K
  clear K
  go_enter Try.func30, Try.ntmps30
  go_wp2_with fail
  refine (HK.out _ (h.alloc _)).mono ?_
  rintro e w' ⟨rfl, z, rfl⟩
  go_wp2_with fail
  go_ret2
  exact gives_of_eq rfl (((Below.refl _ w).alloc (Nat.le_refl _) _).trans (z.h.mono (by simp)))

set_option maxHeartbeats 2000000 in
theorem drops_hit (ps g i : Nat) (l : List SL) (s : SL) (hs hg : Int) (w : World) (h : SlabAt 111 w ps g l) (hl : l[i]? = some s)
    (K : ∀ w, SlabAt 111 w ps g l → Calls Try.prog 49 #[.pointer (some ⟨ps, 0, none⟩), .agg #[.int .i64 hs, .int .i64 hg]] w (Gives (.pointer (some ⟨g, i * 4, none⟩)) w)) :
    Calls Try.prog 30 #[.pointer (some ⟨ps, 0, none⟩), .agg #[.int .i64 hs, .int .i64 hg]] w fun e w' => e = .returned (.tuple #[s.x, .bool true]) ∧ w.grownBy w' (some g) ∧ SlabAt 111 w' ps g (l.set i { s with full := false, x := .string .empty }) := by
  have HK := Lib.hid K
  clear K
  go_enter Try.func30, Try.ntmps30
  go_wp2_with fail
  refine (HK.out _ (h.alloc _)).mono ?_
  rintro e w' ⟨rfl, z, rfl⟩
  have hz := (h.alloc _).below z.h
  obtain ⟨c0, c1, c2, c3⟩ := hz.at hl
  have f2 := hz.frozen (i * 4 + 2)
  have f3 := hz.frozen (i * 4 + 3)
  have gz : w.grownBy z.i (some g) := ((World.grownBy_alloc w _ (some g))).trans (below_grown z.h)
  go_wp2_with fail
  go_ret2
  refine ⟨rfl, ?_, ?_⟩
  · exact (gz.trans (grownBy_set _ _ _ _)).trans (grownBy_set _ _ _ _)
  · exact hz.drop hl _
end Go.Proofs.Ytpnegofmebfcgaa

/- Slab: find and Get of one instance. -/
namespace Go.Proofs.Ytpnegofmebfcgaa
open Go.RowKit
attribute [local go_sem] BW.cell BW.frozen
set_option linter.unusedVariables false

set_option maxHeartbeats 2000000 in
theorem findi_neg (ps g : Nat) (l : List SL) (hs hg : Int) (w : World) (h : SlabAt 120 w ps g l) (h0 : hs < 0) :
    Calls Try.prog 51 #[.pointer (some ⟨ps, 0, none⟩), .agg #[.int .i64 hs, .int .i64 hg]] w (Gives (.pointer none) w) := by
  have hp := h.ptr
  have hpl := h.pl
  have b0 : decide (hs < 0) = true := decide_eq_true h0
  go_enter Try.func51, Try.ntmps51
  go_wp2_with fail
  refine wp_region_bw (w.heap.size + 1) _ (Below.refl _ _) (by kernel_rfl) (by kernel_rfl) ?_
  repeat (go_big_quiet_step (fail))
  refine wpQuiet_nil ?_
  intro x
  go_wp2_with fail
  go_wp2
  go_ret
  exact gives_of_eq rfl (((Below.refl _ w).alloc (Nat.le_refl _) _).trans (x.h.mono (by simp)))

set_option maxHeartbeats 2000000 in
theorem findi_over (ps g : Nat) (l : List SL) (hs hg : Int) (w : World) (h : SlabAt 120 w ps g l) (h0 : ¬ hs < 0) (h1 : (l.length : Int) ≤ hs) :
    Calls Try.prog 51 #[.pointer (some ⟨ps, 0, none⟩), .agg #[.int .i64 hs, .int .i64 hg]] w (Gives (.pointer none) w) := by
  have hp := h.ptr
  have hpl := h.pl
  have hgl := h.gl
  have b0 : decide (hs < 0) = false := decide_eq_false h0
  have b1 : decide ((l.length : Int) ≤ hs) = true := decide_eq_true h1
  go_enter Try.func51, Try.ntmps51
  go_wp2_with fail
  refine wp_region_bw (w.heap.size + 1) _ (Below.refl _ _) (by kernel_rfl) (by kernel_rfl) ?_
  repeat (go_big_quiet_step (fail))
  refine wpQuiet_nil ?_
  intro x
  go_wp2_with fail
  go_wp2
  go_ret
  exact gives_of_eq rfl (((Below.refl _ w).alloc (Nat.le_refl _) _).trans (x.h.mono (by simp)))

set_option maxHeartbeats 2000000 in
theorem findi_free (ps g : Nat) (l : List SL) (i : Nat) (s : SL) (hg : Int) (w : World) (h : SlabAt 120 w ps g l) (hs' : l[i]? = some s) (hf : s.full = false) :
    Calls Try.prog 51 #[.pointer (some ⟨ps, 0, none⟩), .agg #[.int .i64 i, .int .i64 hg]] w (Gives (.pointer none) w) := by
  have hp := h.ptr
  have hpl := h.pl
  have hgl := h.gl
  have hlt : i < l.length := (List.getElem?_eq_some_iff.1 hs').1
  obtain ⟨c0, c1, c2, c3⟩ := h.at hs'
  have b0 : decide ((i : Int) < 0) = false := decide_eq_false (by omega)
  have b1 : decide ((l.length : Int) ≤ (i : Int)) = false := decide_eq_false (by omega)
  rw [hf] at c2
  go_enter Try.func51, Try.ntmps51
  go_wp2_with fail
  refine wp_region_bw (w.heap.size + 1) _ (Below.refl _ _) (by kernel_rfl) (by kernel_rfl) ?_
  repeat (go_big_quiet_step (fail))
  refine wpQuiet_nil ?_
  intro x
  go_wp2_with fail
  refine wp_region_bw (w.heap.size + 1) _ x.h (by kernel_rfl) (by kernel_rfl) ?_
  repeat (go_big_quiet_step (fail))
  refine wpQuiet_nil ?_
  intro y
  go_wp2_with fail
  refine wp_region_bw (w.heap.size + 1) _ y.h (by kernel_rfl) (by kernel_rfl) ?_
  repeat (go_big_quiet_step (fail))
  refine wpQuiet_nil ?_
  intro z
  go_wp2_with fail
  go_wp2
  go_ret
  exact gives_of_eq rfl (((Below.refl _ w).alloc (Nat.le_refl _) _).trans (z.h.mono (by simp)))

set_option maxHeartbeats 2000000 in
theorem findi_old (ps g : Nat) (l : List SL) (i : Nat) (s : SL) (hg : Int) (w : World) (h : SlabAt 120 w ps g l) (hs' : l[i]? = some s) (hf : s.full = true) (hi : s.slot = i) (hn : ¬ s.gen = hg) :
    Calls Try.prog 51 #[.pointer (some ⟨ps, 0, none⟩), .agg #[.int .i64 i, .int .i64 hg]] w (Gives (.pointer none) w) := by
  have hp := h.ptr
  have hpl := h.pl
  have hgl := h.gl
  have hlt : i < l.length := (List.getElem?_eq_some_iff.1 hs').1
  obtain ⟨c0, c1, c2, c3⟩ := h.at hs'
  have b0 : decide ((i : Int) < 0) = false := decide_eq_false (by omega)
  have b1 : decide ((l.length : Int) ≤ (i : Int)) = false := decide_eq_false (by omega)
  rw [hf] at c2
  rw [hi] at c0
  have b2 : (s.gen == hg) = false := by simpa using hn
  go_enter Try.func51, Try.ntmps51
  go_wp2_with fail
  refine wp_region_bw (w.heap.size + 1) _ (Below.refl _ _) (by kernel_rfl) (by kernel_rfl) ?_
  repeat (go_big_quiet_step (fail))
  refine wpQuiet_nil ?_
  intro x
  go_wp2_with fail
  refine wp_region_bw (w.heap.size + 1) _ x.h (by kernel_rfl) (by kernel_rfl) ?_
  repeat (go_big_quiet_step (fail))
  refine wpQuiet_nil ?_
  intro y
  go_wp2_with fail
  refine wp_region_bw (w.heap.size + 1) _ y.h (by kernel_rfl) (by kernel_rfl) ?_
  repeat (go_big_quiet_step (fail))
  refine wpQuiet_nil ?_
  intro z
  go_wp2_with fail
  go_wp2
  go_ret
  exact gives_of_eq rfl (((Below.refl _ w).alloc (Nat.le_refl _) _).trans (z.h.mono (by simp)))

set_option maxHeartbeats 2000000 in
theorem findi_hit (ps g : Nat) (l : List SL) (i : Nat) (s : SL) (hg : Int) (w : World) (h : SlabAt 120 w ps g l) (hs' : l[i]? = some s) (hf : s.full = true) (hi : s.slot = i) (hn : s.gen = hg) :
    Calls Try.prog 51 #[.pointer (some ⟨ps, 0, none⟩), .agg #[.int .i64 i, .int .i64 hg]] w (Gives (.pointer (some ⟨g, i * 4, none⟩)) w) := by
  have hp := h.ptr
  have hpl := h.pl
  have hgl := h.gl
  have hlt : i < l.length := (List.getElem?_eq_some_iff.1 hs').1
  obtain ⟨c0, c1, c2, c3⟩ := h.at hs'
  have b0 : decide ((i : Int) < 0) = false := decide_eq_false (by omega)
  have b1 : decide ((l.length : Int) ≤ (i : Int)) = false := decide_eq_false (by omega)
  rw [hf] at c2
  rw [hi] at c0
  rw [hn] at c1
  go_enter Try.func51, Try.ntmps51
  go_wp2_with fail
  refine wp_region_bw (w.heap.size + 1) _ (Below.refl _ _) (by kernel_rfl) (by kernel_rfl) ?_
  repeat (go_big_quiet_step (fail))
  refine wpQuiet_nil ?_
  intro x
  go_wp2_with fail
  refine wp_region_bw (w.heap.size + 1) _ x.h (by kernel_rfl) (by kernel_rfl) ?_
  repeat (go_big_quiet_step (fail))
  refine wpQuiet_nil ?_
  intro y
  go_wp2_with fail
  refine wp_region_bw (w.heap.size + 1) _ y.h (by kernel_rfl) (by kernel_rfl) ?_
  repeat (go_big_quiet_step (fail))
  refine wpQuiet_nil ?_
  intro z
  go_wp2_with fail
  go_wp2
  go_ret
  exact gives_of_eq rfl (((Below.refl _ w).alloc (Nat.le_refl _) _).trans (z.h.mono (by simp)))

set_option maxHeartbeats 2000000 in
theorem geti_miss (ps g : Nat) (l : List SL) (hs hg : Int) (w : World) (h : SlabAt 120 w ps g l)
    (K : ∀ w, SlabAt 120 w ps g l → Calls Try.prog 51 #[.pointer (some ⟨ps, 0, none⟩), .agg #[.int .i64 hs, .int .i64 hg]] w (Gives (.pointer none) w)) :
    Calls Try.prog 37 #[.pointer (some ⟨ps, 0, none⟩), .agg #[.int .i64 hs, .int .i64 hg]] w (Gives (.tuple #[.int .i64 0, .bool false]) w) := by
  have HK := Lib.hid K
  clear K
  go_enter Try.func37, Try.ntmps37
  go_wp2_with fail
  refine (HK.out _ (h.alloc _)).mono ?_
  rintro e w' ⟨rfl, z, rfl⟩
  go_wp2_with fail
  go_ret2
  exact gives_of_eq rfl (((Below.refl _ w).alloc (Nat.le_refl _) _).trans (z.h.mono (by simp)))

set_option maxHeartbeats 2000000 in
theorem geti_hit (ps g i : Nat) (l : List SL) (s : SL) (hs hg : Int) (w : World) (h : SlabAt 120 w ps g l) (hl : l[i]? = some s)
    (K : ∀ w, SlabAt 120 w ps g l → Calls Try.prog 51 #[.pointer (some ⟨ps, 0, none⟩), .agg #[.int .i64 hs, .int .i64 hg]] w (Gives (.pointer (some ⟨g, i * 4, none⟩)) w)) :
    Calls Try.prog 37 #[.pointer (some ⟨ps, 0, none⟩), .agg #[.int .i64 hs, .int .i64 hg]] w (Gives (.tuple #[s.x, .bool true]) w) := by
  have HK := Lib.hid K
  clear K
  go_enter Try.func37, Try.ntmps37
  go_wp2_with fail
  refine (HK.out _ (h.alloc _)).mono ?_
  rintro e w' ⟨rfl, z, rfl⟩
  obtain ⟨c0, c1, c2, c3⟩ := ((h.alloc _).below z.h).at hl
  go_wp2_with fail
  go_ret2
  exact gives_of_eq rfl (((Below.refl _ w).alloc (Nat.le_refl _) _).trans (z.h.mono (by simp)))
end Go.Proofs.Ytpnegofmebfcgaa

/- Slab: New and Drop of one instance. -/
namespace Go.Proofs.Ytpnegofmebfcgaa
open Go.RowKit
attribute [local go_sem] BW.cell BW.frozen
set_option linter.unusedVariables false

set_option maxHeartbeats 1000000 in
theorem newi_lo (n : Int) (w : World) (hn : n < 1) : Calls Try.prog 32 #[.int .i64 n] w (Keeps (.tuple #[.pointer none, .int .i64 1]) w) := by
  go_enter Try.func32, Try.ntmps32
  go_wp2
  go_ret2
  exact keeps_eq rfl
set_option maxHeartbeats 1000000 in
theorem newi_hi (n : Int) (w : World) (h0 : ¬ n < 1) (hn : 4096 < n) : Calls Try.prog 32 #[.int .i64 n] w (Keeps (.tuple #[.pointer none, .int .i64 1]) w) := by
  go_enter Try.func32, Try.ntmps32
  go_wp2
  go_ret2
  exact keeps_eq rfl

theorem Try.info120 : (Try.prog.info? 120).map (fun i => (i.zero, i.size, i.bytes)) = some (some (.agg #[.int .i64 0, .int .i64 0, .bool false, .int .i64 0]), 4, 32) := by kernel_rfl

set_option maxHeartbeats 2000000 in
theorem dropi_miss (ps g : Nat) (l : List SL) (hs hg : Int) (w : World) (h : SlabAt 120 w ps g l)
    (K : ∀ w, SlabAt 120 w ps g l → Calls Try.prog 51 #[.pointer (some ⟨ps, 0, none⟩), .agg #[.int .i64 hs, .int .i64 hg]] w (Gives (.pointer none) w)) :
    Calls Try.prog 34 #[.pointer (some ⟨ps, 0, none⟩), .agg #[.int .i64 hs, .int .i64 hg]] w (Gives (.tuple #[.int .i64 0, .bool false]) w) := by
  have HK := Lib.hid K
  clear K
  go_enter Try.func34, Try.ntmps34
  go_wp2_with fail
  refine (HK.out _ (h.alloc _)).mono ?_
  rintro e w' ⟨rfl, z, rfl⟩
  go_wp2_with fail
  go_ret2
  exact gives_of_eq rfl (((Below.refl _ w).alloc (Nat.le_refl _) _).trans (z.h.mono (by simp)))

set_option maxHeartbeats 2000000 in
theorem dropi_hit (ps g i : Nat) (l : List SL) (s : SL) (hs hg : Int) (w : World) (h : SlabAt 120 w ps g l) (hl : l[i]? = some s)
    (K : ∀ w, SlabAt 120 w ps g l → Calls Try.prog 51 #[.pointer (some ⟨ps, 0, none⟩), .agg #[.int .i64 hs, .int .i64 hg]] w (Gives (.pointer (some ⟨g, i * 4, none⟩)) w)) :
    Calls Try.prog 34 #[.pointer (some ⟨ps, 0, none⟩), .agg #[.int .i64 hs, .int .i64 hg]] w fun e w' => e = .returned (.tuple #[s.x, .bool true]) ∧ w.grownBy w' (some g) ∧ SlabAt 120 w' ps g (l.set i { s with full := false, x := .int .i64 0 }) := by
  have HK := Lib.hid K
  clear K
  go_enter Try.func34, Try.ntmps34
  go_wp2_with fail
  refine (HK.out _ (h.alloc _)).mono ?_
  rintro e w' ⟨rfl, z, rfl⟩
  have hz := (h.alloc _).below z.h
  obtain ⟨c0, c1, c2, c3⟩ := hz.at hl
  have f2 := hz.frozen (i * 4 + 2)
  have f3 := hz.frozen (i * 4 + 3)
  have gz : w.grownBy z.i (some g) := ((World.grownBy_alloc w _ (some g))).trans (below_grown z.h)
  go_wp2_with fail
  go_ret2
  refine ⟨rfl, ?_, ?_⟩
  · exact (gz.trans (grownBy_set _ _ _ _)).trans (grownBy_set _ _ _ _)
  · exact hz.drop hl _
end Go.Proofs.Ytpnegofmebfcgaa

/- Slab: Set and Put of one instance. -/
namespace Go.Proofs.Ytpnegofmebfcgaa
open Go.RowKit
attribute [local go_sem] BW.cell BW.frozen
set_option linter.unusedVariables false

set_option maxHeartbeats 2000000 in
theorem seti_miss (ps g : Nat) (l : List SL) (hs hg : Int) (b : Int) (w : World) (h : SlabAt 120 w ps g l)
    (K : ∀ w, SlabAt 120 w ps g l → Calls Try.prog 51 #[.pointer (some ⟨ps, 0, none⟩), .agg #[.int .i64 hs, .int .i64 hg]] w (Gives (.pointer none) w)) :
    Calls Try.prog 38 #[.pointer (some ⟨ps, 0, none⟩), .agg #[.int .i64 hs, .int .i64 hg], .int .i64 b] w (Gives (.bool false) w) := by
  have HK := Lib.hid K
  clear K
  go_enter Try.func38, Try.ntmps38
  go_wp2_with fail
  refine (HK.out _ (h.alloc _)).mono ?_
  rintro e w' ⟨rfl, z, rfl⟩
  go_wp2_with fail
  go_ret
  exact gives_of_eq rfl (((Below.refl _ w).alloc (Nat.le_refl _) _).trans (z.h.mono (by simp)))

set_option maxHeartbeats 2000000 in
theorem seti_hit (ps g i : Nat) (l : List SL) (s : SL) (hs hg : Int) (b : Int) (w : World) (h : SlabAt 120 w ps g l) (hl : l[i]? = some s)
    (K : ∀ w, SlabAt 120 w ps g l → Calls Try.prog 51 #[.pointer (some ⟨ps, 0, none⟩), .agg #[.int .i64 hs, .int .i64 hg]] w (Gives (.pointer (some ⟨g, i * 4, none⟩)) w)) :
    Calls Try.prog 38 #[.pointer (some ⟨ps, 0, none⟩), .agg #[.int .i64 hs, .int .i64 hg], .int .i64 b] w fun e w' => e = .returned (.bool true) ∧ w.grownBy w' (some g) ∧ SlabAt 120 w' ps g (l.set i { s with x := .int .i64 b }) := by
  have HK := Lib.hid K
  clear K
  go_enter Try.func38, Try.ntmps38
  go_wp2_with fail
  refine (HK.out _ (h.alloc _)).mono ?_
  rintro e w' ⟨rfl, z, rfl⟩
  have hz := (h.alloc _).below z.h
  obtain ⟨c0, c1, c2, c3⟩ := hz.at hl
  have f3 := hz.frozen (i * 4 + 3)
  have gz : w.grownBy z.i (some g) := ((World.grownBy_alloc w _ (some g))).trans (below_grown z.h)
  go_wp2_with fail
  go_ret
  exact ⟨rfl, gz.trans (grownBy_set _ _ _ _), hz.setx hl _⟩

set_option maxHeartbeats 4000000 in
theorem puti_hit (ps g i : Nat) (l : List SL) (s : SL) (b : Int) (w : World) (h : SlabAt 120 w ps g l) (hl : l[i]? = some s) (hf : s.full = false) (hb : ∀ j t, j < i → l[j]? = some t → t.full = true)
    (hm : l.length ≤ 4096) (g1 : 0 ≤ s.gen) (g2 : s.gen < 4611686018427387904) :
    Calls Try.prog 33 #[.pointer (some ⟨ps, 0, none⟩), .int .i64 b] w fun e w' => e = .returned (.tuple #[.agg #[.int .i64 (i : Int), .int .i64 (s.gen + 1)], .int .i64 0]) ∧ w.grownBy w' (some g) ∧ SlabAt 120 w' ps g (l.set i ⟨i, s.gen + 1, true, .int .i64 b⟩) := by
  have hp := h.ptr
  have hpl := h.pl
  have hgl := h.gl
  have hil : i < l.length := (List.getElem?_eq_some_iff.1 hl).1
  have hn0 : ((l.length : Int) == 0) = false := by simp; intro h0; rw [h0] at hil; simp at hil
  have HB := Lib.hid hb
  have HL := Lib.hid hl
  have HA := Lib.hid h
  clear hb hl h
  generalize hn : l.length = n at *
  go_enter Try.func33, Try.ntmps33
  go_wp2
  go_loopw [24] (fun v wr => ∃ k : Nat, k ≤ i ∧ v = .int .i64 k ∧ Below w.heap.size w wr ∧ wr.cell? ⟨w.heap.size, 0, none⟩ = some (.int .i64 0) ∧ wr.cell? ⟨w.heap.size, 1, none⟩ = some (.int .i64 0) ∧ wr.frozen? ⟨w.heap.size, 0, none⟩ = false ∧ wr.frozen? ⟨w.heap.size, 1, none⟩ = false) (fun v _ => n - (intOf v).toNat)
  case atStart => exact ⟨0, Nat.zero_le _, rfl, (Below.refl _ w).alloc (Nat.le_refl _) _, by simp [go_sem], by simp [go_sem], by simp [go_sem], by simp [go_sem]⟩
  case round =>
    obtain ⟨k, hk, rfl, hbw, o0, o1, of0, of1⟩ := hrel
    have hr := HA.out.below hbw
    have hp' := hr.ptr
    rw [hn] at hp'
    have hkn : k < n := by omega
    by_cases hlt : k < i
    · obtain ⟨t, ht⟩ : ∃ t, l[k]? = some t := ⟨_, List.getElem?_eq_getElem (by omega)⟩
      obtain ⟨c0, c1, c2, c3⟩ := hr.at ht
      rw [HB.out k t hlt ht] at c2
      clear hp
      go_wp2
      go_roundw
      case rel => exact ⟨k + 1, hlt, by go_num, hbw, o0, o1, of0, of1⟩
      case measure => simp [intOf]; omega
    · obtain rfl : k = i := by omega
      obtain ⟨c0, c1, c2, c3⟩ := hr.at HL.out
      rw [hf] at c2
      have f0 := hr.frozen (k * 4)
      have f1 := hr.frozen (k * 4 + 1)
      have f2 := hr.frozen (k * 4 + 2)
      have f3 := hr.frozen (k * 4 + 3)
      have hne : g ≠ w.heap.size := Nat.ne_of_lt hgl
      have HP := Lib.hid (hr.put HL.out ⟨k, s.gen + 1, true, .int .i64 b⟩)
      clear hp
      go_wp2
      refine bodyPost_ret (v := .tuple #[.agg #[.int .i64 (k : Int), .int .i64 (s.gen + 1)], .int .i64 0]) (by simp [results, Try.results33, go_sem, o0, o1]) rfl ⟨rfl, ?_, ?_⟩
      · exact grownBy_new (grownBy_new (((((below_grown hbw).trans (grownBy_set _ _ _ _)).trans (grownBy_set _ _ _ _)).trans (grownBy_set _ _ _ _)).trans (grownBy_set _ _ _ _)) (Nat.le_refl _) _ _) (Nat.le_refl _) _ _
      · exact (HP.out.far (by omega) hne _ _).far (by omega) hne _ _

set_option maxHeartbeats 4000000 in
theorem puti_full (ps g : Nat) (l : List SL) (b : Int) (w : World) (h : SlabAt 120 w ps g l) (hb : ∀ (j : Nat) t, l[j]? = some t → t.full = true) (hm : l.length ≤ 4096) (h0 : 0 < l.length) :
    Calls Try.prog 33 #[.pointer (some ⟨ps, 0, none⟩), .int .i64 b] w (Gives (.tuple #[.agg #[.int .i64 0, .int .i64 0], .int .i64 132]) w) := by
  have hp := h.ptr
  have hpl := h.pl
  have hgl := h.gl
  have hn0 : ((l.length : Int) == 0) = false := by simp; intro h1; rw [h1] at h0; simp at h0
  have HB := Lib.hid hb
  have HA := Lib.hid h
  clear hb h
  generalize hn : l.length = n at *
  go_enter Try.func33, Try.ntmps33
  go_wp2
  go_loopw [24] (fun v wr => ∃ k : Nat, k ≤ n ∧ v = .int .i64 k ∧ Below w.heap.size w wr ∧ wr.cell? ⟨w.heap.size, 0, none⟩ = some (.int .i64 0) ∧ wr.cell? ⟨w.heap.size, 1, none⟩ = some (.int .i64 0) ∧ wr.frozen? ⟨w.heap.size, 0, none⟩ = false ∧ wr.frozen? ⟨w.heap.size, 1, none⟩ = false) (fun v _ => n - (intOf v).toNat)
  case atStart => exact ⟨0, Nat.zero_le _, rfl, (Below.refl _ w).alloc (Nat.le_refl _) _, by simp [go_sem], by simp [go_sem], by simp [go_sem], by simp [go_sem]⟩
  case round =>
    obtain ⟨k, hk, rfl, hbw, o0, o1, of0, of1⟩ := hrel
    have hr := HA.out.below hbw
    have hp' := hr.ptr
    rw [hn] at hp'
    by_cases hlt : k < n
    · obtain ⟨t, ht⟩ : ∃ t, l[k]? = some t := ⟨_, List.getElem?_eq_getElem (by omega)⟩
      obtain ⟨c0, c1, c2, c3⟩ := hr.at ht
      rw [HB.out k t ht] at c2
      clear hp
      go_wp2
      go_roundw
      case rel => exact ⟨k + 1, hlt, by go_num, hbw, o0, o1, of0, of1⟩
      case measure => simp [intOf]; omega
    · obtain rfl : k = n := by omega
      clear hp
      go_wp2
      refine bodyPost_ret (v := .tuple #[.agg #[.int .i64 0, .int .i64 0], .int .i64 132]) (by simp [results, Try.results33, go_sem, o0, o1]) rfl (gives_of_eq rfl ?_)
      exact (hbw.setCell (p := ⟨w.heap.size, 0, none⟩) (Nat.le_refl _) _).setCell (p := ⟨w.heap.size, 1, none⟩) (Nat.le_refl _) _

set_option maxHeartbeats 400000 in
theorem puti_nil (b : Int) (w : World) : Calls Try.prog 33 #[.pointer none, .int .i64 b] w (Gives (.tuple #[.agg #[.int .i64 0, .int .i64 0], .int .i64 2]) w) := by
  go_enter Try.func33, Try.ntmps33
  go_wp2
  refine bodyPost_ret (v := .tuple #[.agg #[.int .i64 0, .int .i64 0], .int .i64 2]) (by simp [results, Try.results33, go_sem]) rfl (gives_of_eq rfl ?_)
  exact (Below.refl _ w).alloc (Nat.le_refl _) _
end Go.Proofs.Ytpnegofmebfcgaa

/- Slab: New of one instance, the slab made. -/
namespace Go.Proofs.Ytpnegofmebfcgaa
open Go.RowKit
attribute [local go_sem] BW.cell BW.frozen
set_option linter.unusedVariables false

set_option maxHeartbeats 2000000 in
theorem newi_ok (n : Nat) (w : World) (h1 : 1 ≤ n) (h2 : n ≤ 4096) :
    Calls Try.prog 32 #[.int .i64 n] w fun e w' => e = .returned (.tuple #[.pointer (some ⟨w.heap.size + 1, 0, none⟩), .int .i64 0]) ∧ Below w.heap.size w w' ∧ SlabAt 120 w' (w.heap.size + 1) w.heap.size (List.replicate n ⟨0, 0, false, .int .i64 0⟩) := by
  obtain ⟨i0, hi, hz0, hz1, hz2⟩ := info_parts Try.info120
  have hmk : ∀ u : World, (Instr.makeSlice 115 (.int .i64 n) (.int .i64 n)).run Try.prog u =
      .ok (.slice (some ⟨u.heap.size, 0, none⟩) n n) (u.alloc (.cells (flat (List.replicate n ⟨0, 0, false, .int .i64 0⟩)).toArray 120)) := fun u => by
    have h := run_make (P := Try.prog) u 115 120 i0 (.agg #[.int .i64 0, .int .i64 0, .bool false, .int .i64 0]) Try.underlying115 hi hz0 .i64 .i64 (n : Int) (n : Int) (by omega) (Int.le_refl _) (by rw [hz2]; omega) (by omega)
    rw [Int.toNat_natCast, hz1] at h
    rw [h]
    have e := made_flat (.int .i64 0) n
    rw [← e]; rfl
  generalize hcs : (flat (List.replicate n ⟨0, 0, false, .int .i64 0⟩)).toArray = cs at hmk
  have HC := Lib.hid hcs
  clear hcs
  have hm1 : ¬ (n : Int) < 1 := by omega
  have hm2 : ¬ 4096 < (n : Int) := by omega
  go_enter Try.func32, Try.ntmps32
  go_wp2
  go_ret2
  refine ⟨rfl, ((Below.refl _ w).alloc (Nat.le_refl _) _).alloc (by simp) _, ?_, ?_, by omega⟩
  · rw [List.length_replicate]; simp [go_sem]
  · rw [HC.out]; exact (Below.heap_alloc _ _ _ (by simp)).trans (heap_alloc_new w _)
end Go.Proofs.Ytpnegofmebfcgaa

/- Slab: New of one instance, the slab made. -/
namespace Go.Proofs.Ytpnegofmebfcgaa
open Go.RowKit
attribute [local go_sem] BW.cell BW.frozen
set_option linter.unusedVariables false

set_option maxHeartbeats 2000000 in
theorem news_ok (n : Nat) (w : World) (h1 : 1 ≤ n) (h2 : n ≤ 4096) :
    Calls Try.prog 20 #[.int .i64 n] w fun e w' => e = .returned (.tuple #[.pointer (some ⟨w.heap.size + 1, 0, none⟩), .int .i64 0]) ∧ Below w.heap.size w w' ∧ SlabAt 111 w' (w.heap.size + 1) w.heap.size (List.replicate n ⟨0, 0, false, .string .empty⟩) := by
  obtain ⟨i0, hi, hz0, hz1, hz2⟩ := info_parts Try.info111
  have hmk : ∀ u : World, (Instr.makeSlice 61 (.int .i64 n) (.int .i64 n)).run Try.prog u =
      .ok (.slice (some ⟨u.heap.size, 0, none⟩) n n) (u.alloc (.cells (flat (List.replicate n ⟨0, 0, false, .string .empty⟩)).toArray 111)) := fun u => by
    have h := run_make (P := Try.prog) u 61 111 i0 (.agg #[.int .i64 0, .int .i64 0, .bool false, .string .empty]) Try.underlying61 hi hz0 .i64 .i64 (n : Int) (n : Int) (by omega) (Int.le_refl _) (by rw [hz2]; omega) (by omega)
    rw [Int.toNat_natCast, hz1] at h
    rw [h]
    have e := made_flat (.string .empty) n
    rw [← e]; rfl
  generalize hcs : (flat (List.replicate n ⟨0, 0, false, .string .empty⟩)).toArray = cs at hmk
  have HC := Lib.hid hcs
  clear hcs
  have hm1 : ¬ (n : Int) < 1 := by omega
  have hm2 : ¬ 4096 < (n : Int) := by omega
  go_enter Try.func20, Try.ntmps20
  go_wp2
  go_ret2
  refine ⟨rfl, ((Below.refl _ w).alloc (Nat.le_refl _) _).alloc (by simp) _, ?_, ?_, by omega⟩
  · rw [List.length_replicate]; simp [go_sem]
  · rw [HC.out]; exact (Below.heap_alloc _ _ _ (by simp)).trans (heap_alloc_new w _)
end Go.Proofs.Ytpnegofmebfcgaa

/- Slab: New of one instance, the slab made. -/
namespace Go.Proofs.Ytpnegofmebfcgaa
open Go.RowKit
attribute [local go_sem] BW.cell BW.frozen
set_option linter.unusedVariables false

set_option maxHeartbeats 2000000 in
theorem newp_ok (n : Nat) (w : World) (h1 : 1 ≤ n) (h2 : n ≤ 4096) :
    Calls Try.prog 8 #[.int .i64 n] w fun e w' => e = .returned (.tuple #[.pointer (some ⟨w.heap.size + 1, 0, none⟩), .int .i64 0]) ∧ Below w.heap.size w w' ∧ SlabAt 97 w' (w.heap.size + 1) w.heap.size (List.replicate n ⟨0, 0, false, .pointer none⟩) := by
  obtain ⟨i0, hi, hz0, hz1, hz2⟩ := info_parts Try.info97
  have hmk : ∀ u : World, (Instr.makeSlice 92 (.int .i64 n) (.int .i64 n)).run Try.prog u =
      .ok (.slice (some ⟨u.heap.size, 0, none⟩) n n) (u.alloc (.cells (flat (List.replicate n ⟨0, 0, false, .pointer none⟩)).toArray 97)) := fun u => by
    have h := run_make (P := Try.prog) u 92 97 i0 (.agg #[.int .i64 0, .int .i64 0, .bool false, .pointer none]) Try.underlying92 hi hz0 .i64 .i64 (n : Int) (n : Int) (by omega) (Int.le_refl _) (by rw [hz2]; omega) (by omega)
    rw [Int.toNat_natCast, hz1] at h
    rw [h]
    have e := made_flat (.pointer none) n
    rw [← e]; rfl
  generalize hcs : (flat (List.replicate n ⟨0, 0, false, .pointer none⟩)).toArray = cs at hmk
  have HC := Lib.hid hcs
  clear hcs
  have hm1 : ¬ (n : Int) < 1 := by omega
  have hm2 : ¬ 4096 < (n : Int) := by omega
  go_enter Try.func8, Try.ntmps8
  go_wp2
  go_ret2
  refine ⟨rfl, ((Below.refl _ w).alloc (Nat.le_refl _) _).alloc (by simp) _, ?_, ?_, by omega⟩
  · rw [List.length_replicate]; simp [go_sem]
  · rw [HC.out]; exact (Below.heap_alloc _ _ _ (by simp)).trans (heap_alloc_new w _)
end Go.Proofs.Ytpnegofmebfcgaa

