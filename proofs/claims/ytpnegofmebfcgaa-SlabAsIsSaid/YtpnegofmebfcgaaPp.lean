/- Slab: Set and Put of one instance. -/
import Derived.Test.YtpnegofmebfcgaaS2
import Derived.Lib.Hide
namespace Go.Proofs.Ytpnegofmebfcgaa
open Go.RowKit
attribute [local go_sem] BW.cell BW.frozen
set_option linter.unusedVariables false

set_option maxHeartbeats 4000000 in
theorem putp_hit (ps g i : Nat) (l : List SL) (s : SL) (b : Option Addr) (w : World) (h : SlabAt 97 w ps g l) (hl : l[i]? = some s) (hf : s.full = false) (hb : ∀ j t, j < i → l[j]? = some t → t.full = true)
    (hm : l.length ≤ 4096) (g1 : 0 ≤ s.gen) (g2 : s.gen < 4611686018427387904) :
    Calls Try.prog 10 #[.pointer (some ⟨ps, 0, none⟩), .pointer b] w fun e w' => e = .returned (.tuple #[.agg #[.int .i64 (i : Int), .int .i64 (s.gen + 1)], .int .i64 0]) ∧ w.grownBy w' (some g) ∧ SlabAt 97 w' ps g (l.set i ⟨i, s.gen + 1, true, .pointer b⟩) := by
  have hp := h.ptr
  have hpl := h.pl
  have hgl := h.gl
  have hil : i < l.length := (List.getElem?_eq_some_iff.1 hl).1
  have hn0 : ((l.length : Int) == 0) = false := by simp; intro h0; rw [h0] at hil; simp at hil
  have HB := Lib.hid hb
  have HL := Lib.hid hl
  have HA := Lib.hid h
  clear hb hl h
  generalize hn : l.length = n at *
  go_enter Try.func10, Try.ntmps10
  go_wp2
  go_loopw [24] (fun v wr => ∃ k : Nat, k ≤ i ∧ v = .int .i64 k ∧ Below w.heap.size w wr ∧ wr.cell? ⟨w.heap.size, 0, none⟩ = some (.int .i64 0) ∧ wr.cell? ⟨w.heap.size, 1, none⟩ = some (.int .i64 0) ∧ wr.frozen? ⟨w.heap.size, 0, none⟩ = false ∧ wr.frozen? ⟨w.heap.size, 1, none⟩ = false) (fun v _ => n - (intOf v).toNat)
  case atStart => exact ⟨0, Nat.zero_le _, rfl, (Below.refl _ w).alloc (Nat.le_refl _) _, by simp [go_sem], by simp [go_sem], by simp [go_sem], by simp [go_sem]⟩
  case round =>
    obtain ⟨k, hk, rfl, hbw, o0, o1, of0, of1⟩ := hrel
    have hr := HA.out.below hbw
    have hp' := hr.ptr
    rw [hn] at hp'
    have hkn : k < n := by omega
    by_cases hlt : k < i
    · obtain ⟨t, ht⟩ : ∃ t, l[k]? = some t := ⟨_, List.getElem?_eq_getElem (by omega)⟩
      obtain ⟨c0, c1, c2, c3⟩ := hr.at ht
      rw [HB.out k t hlt ht] at c2
      clear hp
      go_wp2
      go_roundw
      case rel => exact ⟨k + 1, hlt, by go_num, hbw, o0, o1, of0, of1⟩
      case measure => simp [intOf]; omega
    · obtain rfl : k = i := by omega
      obtain ⟨c0, c1, c2, c3⟩ := hr.at HL.out
      rw [hf] at c2
      have f0 := hr.frozen (k * 4)
      have f1 := hr.frozen (k * 4 + 1)
      have f2 := hr.frozen (k * 4 + 2)
      have f3 := hr.frozen (k * 4 + 3)
      have hne : g ≠ w.heap.size := Nat.ne_of_lt hgl
      have HP := Lib.hid (hr.put HL.out ⟨k, s.gen + 1, true, .pointer b⟩)
      clear hp
      go_wp2
      refine bodyPost_ret (v := .tuple #[.agg #[.int .i64 (k : Int), .int .i64 (s.gen + 1)], .int .i64 0]) (by simp [results, Try.results10, go_sem, o0, o1]) rfl ⟨rfl, ?_, ?_⟩
      · exact grownBy_new (grownBy_new (((((below_grown hbw).trans (grownBy_set _ _ _ _)).trans (grownBy_set _ _ _ _)).trans (grownBy_set _ _ _ _)).trans (grownBy_set _ _ _ _)) (Nat.le_refl _) _ _) (Nat.le_refl _) _ _
      · exact (HP.out.far (by omega) hne _ _).far (by omega) hne _ _

set_option maxHeartbeats 4000000 in
theorem putp_full (ps g : Nat) (l : List SL) (b : Option Addr) (w : World) (h : SlabAt 97 w ps g l) (hb : ∀ (j : Nat) t, l[j]? = some t → t.full = true) (hm : l.length ≤ 4096) (h0 : 0 < l.length) :
    Calls Try.prog 10 #[.pointer (some ⟨ps, 0, none⟩), .pointer b] w (Gives (.tuple #[.agg #[.int .i64 0, .int .i64 0], .int .i64 132]) w) := by
  have hp := h.ptr
  have hpl := h.pl
  have hgl := h.gl
  have hn0 : ((l.length : Int) == 0) = false := by simp; intro h1; rw [h1] at h0; simp at h0
  have HB := Lib.hid hb
  have HA := Lib.hid h
  clear hb h
  generalize hn : l.length = n at *
  go_enter Try.func10, Try.ntmps10
  go_wp2
  go_loopw [24] (fun v wr => ∃ k : Nat, k ≤ n ∧ v = .int .i64 k ∧ Below w.heap.size w wr ∧ wr.cell? ⟨w.heap.size, 0, none⟩ = some (.int .i64 0) ∧ wr.cell? ⟨w.heap.size, 1, none⟩ = some (.int .i64 0) ∧ wr.frozen? ⟨w.heap.size, 0, none⟩ = false ∧ wr.frozen? ⟨w.heap.size, 1, none⟩ = false) (fun v _ => n - (intOf v).toNat)
  case atStart => exact ⟨0, Nat.zero_le _, rfl, (Below.refl _ w).alloc (Nat.le_refl _) _, by simp [go_sem], by simp [go_sem], by simp [go_sem], by simp [go_sem]⟩
  case round =>
    obtain ⟨k, hk, rfl, hbw, o0, o1, of0, of1⟩ := hrel
    have hr := HA.out.below hbw
    have hp' := hr.ptr
    rw [hn] at hp'
    by_cases hlt : k < n
    · obtain ⟨t, ht⟩ : ∃ t, l[k]? = some t := ⟨_, List.getElem?_eq_getElem (by omega)⟩
      obtain ⟨c0, c1, c2, c3⟩ := hr.at ht
      rw [HB.out k t ht] at c2
      clear hp
      go_wp2
      go_roundw
      case rel => exact ⟨k + 1, hlt, by go_num, hbw, o0, o1, of0, of1⟩
      case measure => simp [intOf]; omega
    · obtain rfl : k = n := by omega
      clear hp
      go_wp2
      refine bodyPost_ret (v := .tuple #[.agg #[.int .i64 0, .int .i64 0], .int .i64 132]) (by simp [results, Try.results10, go_sem, o0, o1]) rfl (gives_of_eq rfl ?_)
      exact (hbw.setCell (p := ⟨w.heap.size, 0, none⟩) (Nat.le_refl _) _).setCell (p := ⟨w.heap.size, 1, none⟩) (Nat.le_refl _) _

set_option maxHeartbeats 400000 in
theorem putp_nil (b : Option Addr) (w : World) : Calls Try.prog 10 #[.pointer none, .pointer b] w (Gives (.tuple #[.agg #[.int .i64 0, .int .i64 0], .int .i64 2]) w) := by
  go_enter Try.func10, Try.ntmps10
  go_wp2
  refine bodyPost_ret (v := .tuple #[.agg #[.int .i64 0, .int .i64 0], .int .i64 2]) (by simp [results, Try.results10, go_sem]) rfl (gives_of_eq rfl ?_)
  exact (Below.refl _ w).alloc (Nat.le_refl _) _
end Go.Proofs.Ytpnegofmebfcgaa
