/- Slab (p): All and Len. -/
import Derived.Test.YtpnegofmebfcgaaAp
import Derived.RangeFuncFrom
namespace Go.Proofs.Ytpnegofmebfcgaa
open Go.RowKit Go.Shelf
attribute [local go_sem] Oper.semAt_some
set_option linter.unusedVariables false

theorem allof_in_p (F : Fence) (n : Nat) (h5 : F.fn 14) (hro : F.round = none) (p : Option Addr) (w : World) :
    CallsIn F n Try.prog 14 #[.pointer p] w fun e w' => e = .returned (.func (.func 41) #[] #[.pointer (some ⟨w.heap.size, 0, none⟩)]) ∧ w' = w.alloc (.cells #[.pointer p] 23) := by
  refine callsIn_of_wp Try.func14 rfl h5 ?_ hro
  simp only [Try.ntmps14, List.size_toArray, List.length_cons, List.length_nil, Nat.reduceAdd, Nat.reduceSub, Array.replicate_succ, Array.replicate_zero, List.push_toArray, List.append_toArray, List.nil_append, List.cons_append]
  gi_wp2
  go_ret
  exact ⟨rfl, rfl⟩

theorem flat_ones_p {l : List SL} (hx : ∀ s ∈ l, ∃ b : Option Addr, s.x = .pointer b) : ∀ u ∈ flat l, u.oneCell' = true := by
  induction l with
  | nil => intro u hu; cases hu
  | cons s r ih =>
    intro u hu
    simp only [flat, List.mem_cons] at hu
    rcases hu with rfl | rfl | rfl | rfl | hu
    · rfl
    · rfl
    · rfl
    · obtain ⟨b, hb⟩ := hx s (List.mem_cons_self ..); rw [hb]; rfl
    · exact ih (fun t ht => hx t (List.mem_cons_of_mem _ ht)) u hu

theorem all_stops_p (F : Fence) (n : Nat) (hf : F.fn 41) (hro : F.round = none) (hn : 1 ≤ n) (Bs ps g : Nat) (l : List SL) (hm : l.length ≤ 4096) (h0l : 0 < l.length) (hx : ∀ s ∈ l, ∃ b : Option Addr, s.x = .pointer b) (w : World)
    (hB : Bs < w.heap.size) (hBs : w.cell? ⟨Bs, 0, none⟩ = some (.pointer (some ⟨ps, 0, none⟩))) (hS : SlabAt 97 w ps g l) :
    SeqStopsK F n Try.prog 41 #[.pointer (some ⟨Bs, 0, none⟩)] (fun x : SL => #[.agg #[.int .i64 x.slot, .int .i64 x.gen], x.x]) (KT 97 g) (fun ys => ys = l.filter (·.full)) (fun pre => ∃ k, k ≤ l.length ∧ pre = (l.take k).filter (·.full)) l.length w :=
  fun lp J Jx W hW hJ _ hY h0 => allp_in F n hf hro hn lp Bs ps g l hm h0l (flat_ones_p hx) hx J Jx W hJ hY ((hW.cell (p := ⟨Bs, 0, none⟩) hB).trans hBs) (hS.below hW) h0

set_option maxRecDepth 100000 in
set_option maxHeartbeats 4000000 in
theorem len_in_p (F : Fence) (n : Nat) (h3 : F.fn 15) (h5 : F.fn 14) (h6 : F.fn 41) (hro : F.round = none) (hn : 3 ≤ n) (ps g : Nat) (l : List SL) (hm : l.length ≤ 4096) (h0l : 0 < l.length) (hx : ∀ s ∈ l, ∃ b : Option Addr, s.x = .pointer b) (w : World) (hS : SlabAt 97 w ps g l) :
    CallsIn F n Try.prog 15 #[.pointer (some ⟨ps, 0, none⟩)] w fun e W' => e = .returned (.int .i64 (l.filter (·.full)).length) ∧ Below w.heap.size w W' := by
  have h1 : 1 ≤ n := by omega
  refine callsIn_of_wp_marks Try.func15 rfl h3 ?_ hro
  simp only [Try.ntmps15, List.size_toArray, List.length_cons, List.length_nil, Nat.reduceAdd, Nat.reduceSub, Array.replicate_succ, Array.replicate_zero, List.push_toArray, List.append_toArray, List.nil_append, List.cons_append]
  gi_wp2_with (gi_at_call 14; refine (allof_in_p F (n - 1) h5 hro _ _).mono ?_; rintro e w' ⟨rfl, rfl⟩)
  have hb : ((w.alloc (.cells #[.int .i64 0] 3)).alloc (.cells #[.pointer (some ⟨ps, 0, none⟩)] 23)).cell? ⟨w.heap.size + 1, 0, none⟩ = some (.pointer (some ⟨ps, 0, none⟩)) := by simp [go_sem]
  have hk : ((w.alloc (.cells #[.int .i64 0] 3)).alloc (.cells #[.pointer (some ⟨ps, 0, none⟩)] 23)).heap[w.heap.size]? = some (.cells #[.int .i64 0] 3 (0, 0)) := (Below.heap_alloc _ _ _ (by simp)).trans (heap_alloc_new w _)
  have hB0 : Below w.heap.size w ((w.alloc (.cells #[.int .i64 0] 3)).alloc (.cells #[.pointer (some ⟨ps, 0, none⟩)] 23)) := ((Below.refl _ w).alloc (Nat.le_refl _) _).alloc (by simp) _
  refine wpIn_rangeFunc_ownF hro h1 (gf := 41) (lb := #[.pointer (some ⟨w.heap.size + 1, 0, none⟩)]) rfl h6 (enters_of Try.func41 (by kernel_rfl) rfl)
    (all_stops_p F (n - 1) h6 hro (by omega) (w.heap.size + 1) ps g l hm h0l hx _ (by simp) hb (hS.below hB0)) KT.trans (KT.putObj (w := ((w.alloc (.cells #[.int .i64 0] 3)).alloc (.cells #[.pointer (some ⟨ps, 0, none⟩)] 23)))) (Below.refl _ _) (fun _ => rfl)
    (fun pre W => (W.cell? ⟨w.heap.size, 0, none⟩ = some (.int .i64 (pre.length : Int)) ∧ W.frozen? ⟨w.heap.size, 0, none⟩ = false ∧ (∀ cur fr, W.heap[w.heap.size]? ≠ some (.cells cur 97 fr))) ∧ Below w.heap.size w W)
    (fun _ _ _ => False)
    (OwnFrom.and (fun s A B row hs hg hr => ⟨cell_kept hs.1 hg (fun r e => (hr r e).2), (frozen_kept hs.1 hg (fun r e => (hr r e).2)).trans hs.2.1, fun cur fr => by
      rw [hg.block w.heap.size (World.block_lt_of_cell? A _ hs.1) (fun e => by have := (hr _ e.symm).1; simp at this; omega)]; exact hs.2.2 cur fr⟩) (ownFrom_below (Nat.le_refl _) (by simp; omega)))
    (fun _ _ _ _ _ hs _ _ => hs)
    ⟨⟨by simp [go_sem], by simp [go_sem], fun cur fr h => by rw [hk] at h; cases h⟩, hB0⟩
    (fun x => { tmps := #[.pointer (some ⟨ps, 0, none⟩), undef, .int .i64 0, .pointer (some ⟨w.heap.size, 0, none⟩), .pointer (some ⟨ps, 0, none⟩), .func (.func 41) #[] #[.pointer (some ⟨w.heap.size + 1, 0, none⟩)], .agg #[.int .i64 x.slot, .int .i64 x.gen], x.x, undef, undef, undef], defers := [] }) ?assign ?body ?done ?stop
  case assign =>
    intro l x W K hK
    gi_wp2
    simpa using hK
  case body =>
    rintro lp pre x W ⟨⟨hc, hf, hne⟩, hB⟩ hlt
    gi_wp2
    exact ⟨KeepsOthers.setCell _ _ _, KT.set (.inr hne), ⟨by rw [List.length_append]; exact World.cell?_setCell_same' _ _ _ (by rw [hc]; rfl), by rw [World.frozen?_setCell]; exact hf, fun cur fr h => by
      have hlt := World.block_lt_of_cell? W _ hc
      cases ho : W.heap[w.heap.size]? with
      | none => rw [Array.getElem?_eq_none_iff] at ho; simp at hlt; omega
      | some o =>
        cases o with
        | cells cs t fr' => simp [World.setCell, Array.getElem?_modify, ho] at h; exact hne cs fr' (by rw [ho, h.2.1])
        | _ => simp [World.setCell, Array.getElem?_modify, ho] at h⟩, hB.setCell (p := ⟨w.heap.size, 0, none⟩) (Nat.le_refl _) _⟩
  case done =>
    rintro D ys W hD rfl ⟨⟨hc, _⟩, hB⟩ hK
    gi_wp2
    refine ⟨by simp, .inl ⟨_, _, rfl, run_takeDeferred hK, ?_⟩⟩
    exact ⟨_, results_tmp rfl _ _ _, rfl, hB.trans (belowK_b (w := w) (Nat.le_refl _) W D _ _ (by simp at hD; omega) hK rfl rfl)⟩
  case stop =>
    rintro D c pre W _ _ h _
    exact h.elim
end Go.Proofs.Ytpnegofmebfcgaa
