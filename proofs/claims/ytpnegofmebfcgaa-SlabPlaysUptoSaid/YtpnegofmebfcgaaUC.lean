/- Slab, base: All, Len, Room of each instance. Merged texts. -/
import Derived.Test.YtpnegofmebfcgaaUA
import Derived.Maps.OwnIn
import Derived.OwnWalk
import Derived.Deep.AppendLies
import Derived.RangeFuncFrom
import Derived.Lib.Hide
/- Slab: the closure of All of one instance. -/
namespace Go.Proofs.Ytpnegofmebfcgaa
open Go.RowKit Go.Shelf Go.Maps
attribute [local go_sem] Oper.semAt_some
set_option linter.unusedVariables false

theorem add_off (b off j : Nat) : (⟨b, off, none⟩ : Addr).add j = ⟨b, off + j, none⟩ := by
  unfold Addr.add; split
  · simp_all
  · rfl

theorem own_kt {T : TypeId} {w w' : World} {base g size n : Nat} {v : Value} {xs : List Value} (h : w.ownsRow base T size v n xs) (hk : KT T g w w') (hg : g < base) : w'.ownsRow base T size v n xs := by
  obtain ⟨hl, h | ⟨c, cap, cur, hv, hb, hh, r⟩⟩ := h
  · exact ⟨hl, .inl h⟩
  · exact ⟨hl, .inr ⟨c, cap, cur, hv, hb, hk.same c cur _ (by omega) hh, r⟩⟩

theorem Try.infoE111 : (Try.prog.info? 111).map (fun i => (i.zero, i.size, i.bytes)) = some (some (.agg #[.int .i64 0, .int .i64 0, .bool false, .string .empty]), 4, 40) := by kernel_rfl

set_option maxRecDepth 100000 in
set_option maxHeartbeats 4000000 in
theorem alls_in (F : Fence) (n : Nat) (hf : F.fn 48) (hro : F.round = none) (hn : 1 ≤ n) (lp Bs ps g : Nat) (l : List SL) (hm : l.length ≤ 4096) (h0l : 0 < l.length) (h1 : ∀ u ∈ flat l, u.oneCell' = true) (hx : ∀ s ∈ l, ∃ b : ByteArray, s.x = .string b) (J Jx : List SL → World → Prop)
    (W : World) (hJa : AbidesFrom W.heap.size J)
    (hY : ∀ pre x W, J pre W → pre.length < l.length → YieldAt F (n - 1) Try.prog lp #[.agg #[.int .i64 x.slot, .int .i64 x.gen], x.x] W fun e W' =>
      (e = .returned (.bool true) ∧ J (pre ++ [x]) W' ∧ KT 111 g W W') ∨ (e = .returned (.bool false) ∧ Jx (pre ++ [x]) W'))
    (hBs : W.cell? ⟨Bs, 0, none⟩ = some (.pointer (some ⟨ps, 0, none⟩))) (hS : SlabAt 111 W ps g l) (h0 : J [] W) :
    CallsIn F n Try.prog 48 #[.func (.yield lp) #[] #[], .pointer (some ⟨Bs, 0, none⟩)] W fun e W' => (∃ v, e = .returned v) ∧
      ((∃ ys, ys = l.filter (·.full) ∧ J ys W') ∨ (∃ pre, (∃ k, k ≤ l.length ∧ pre = (l.take k).filter (·.full)) ∧ Jx pre W')) := by
  obtain ⟨i0, hi, hz0, hz1, hz2⟩ := info_parts Try.infoE111
  have hp := hS.ptr
  have hnews : ∀ j u, (flat l)[j]? = some u → W.cell? ((⟨g, 0, none⟩ : Addr).add j) = some u := fun j u hu => by
    have e : (⟨g, 0, none⟩ : Addr).add j = ⟨g, j, none⟩ := by unfold Addr.add; split <;> simp_all
    rw [e, hS.cell]; exact hu
  generalize hlen : l.length = len at *
  refine callsIn_of_wp Try.func48 rfl hf ?_ hro
  simp only [Try.ntmps48, List.size_toArray, List.length_cons, List.length_nil, Nat.reduceAdd, Nat.reduceSub, Array.replicate_succ, Array.replicate_zero, List.push_toArray, List.append_toArray, List.nil_append, List.cons_append]
  gi_wp2_with (gi_at_builtin; refine wpListIn_append_own_at _ rfl _ _ 61 (by rfl) W.heap.size 111 i0 (.agg #[.int .i64 0, .int .i64 0, .bool false, .string .empty]) 4 40 Try.underlying61 hi hz0 hz1 hz2 rfl (by decide) (.slice none 0 0) 0 [] (by rfl) ⟨rfl, .inl ⟨rfl, rfl⟩⟩ ⟨g, 0, none⟩ len len (flat l) (by rfl) (by rw [flat_length, hlen]) hnews h1 (by unfold maxLen; omega) (by omega) (Nat.le_refl _) ?_; intro v' w1 hown hgrow hnil hloc; rw [Nat.zero_add, List.nil_append] at hown; obtain ⟨c, cap, rfl, hcb, hcl⟩ := hown.form h0l)
  have hgl := hS.gl
  have J1 : J [] w1 := hJa _ _ _ none h0 hgrow (fun r e => by cases e)
  gi_loopw [13] (fun v wr => ∃ k : Nat, k ≤ len ∧ v = .int .i64 k ∧ J ((l.take k).filter (·.full)) wr ∧ wr.ownsRow W.heap.size 111 4 (.slice (some ⟨c, 0, none⟩) len cap) len (flat l)) (fun v _ => len - (intOf v).toNat)
  case atStart => exact ⟨0, Nat.zero_le _, rfl, J1, hown⟩
  case round =>
    obtain ⟨k, hk, rfl, hJs, ho⟩ := hrel
    by_cases hlt : k < len
    · obtain ⟨s, hs⟩ : ∃ s, l[k]? = some s := ⟨_, List.getElem?_eq_getElem (by omega)⟩
      obtain ⟨e0, e1, e2, e3⟩ := flat_get l k s hs
      have hc := ho.cells (g := c) rfl
      have c0 := hc _ _ e0
      have c1 := hc _ _ e1
      have c2 := hc _ _ e2
      have c3 := hc _ _ e3
      rw [add_off] at c0 c1 c2 c3
      simp only [Nat.zero_add] at c0 c1 c2 c3
      have htk : (l.take (k + 1)).filter (·.full) = (l.take k).filter (·.full) ++ (if s.full then [s] else []) := by
        rw [List.take_add_one, hs, List.filter_append]
        cases hf : s.full <;> simp [hf]
      obtain ⟨xb, hxb⟩ := hx s (List.mem_of_getElem? hs)
      rw [hxb] at c3
      have hJn : ∀ o, J ((l.take k).filter (·.full)) (wr.alloc o) := fun o => hJa _ _ _ none hJs (World.grownBy_alloc wr o none) (fun r e => by cases e)
      cases hfs : s.full
      · rw [hfs] at c2 htk
        rw [if_neg (by decide), List.append_nil] at htk
        gi_wp2
        refine ⟨fun _ h => (by cases h), ?_⟩
        gi_wp2
        go_roundw
        case rel => exact ⟨k + 1, hlt, by go_num, by rw [htk]; exact hJn _, ho.alloc _⟩
        case measure => simp [intOf]; omega
      · rw [hfs] at c2 htk
        rw [if_pos rfl] at htk
        obtain ⟨fn, tmps, assign, body, hy, hR⟩ := hY _ s (wr.alloc (.cells #[.int .i64 s.slot, .int .i64 s.gen, .bool true, .string xb] 111)) (hJn _) (Nat.lt_of_le_of_lt (List.length_filter_le _ _) (by rw [List.length_take]; omega))
        rw [hxb] at hy
        gi_wp2
        refine hR.mono ?_
        rintro e W3 (⟨rfl, hJ3, hk3⟩ | ⟨rfl, hJx3⟩)
        · gi_wp2
          go_roundw
          case rel => exact ⟨k + 1, hlt, by go_num, by rw [htk]; exact hJ3, own_kt (ho.alloc _) hk3 hgl⟩
          case measure => simp [intOf]; omega
        · gi_wp2
          refine bodyPost_ret (results_none rfl _ _ _) rfl ?_
          exact ⟨⟨_, rfl⟩, .inr ⟨_, ⟨k + 1, by omega, htk.symm⟩, hJx3⟩⟩
    · obtain rfl : k = len := by omega
      gi_wp2
      go_end0
      have e : l.take k = l := List.take_of_length_le (by omega)
      rw [e] at hJs
      exact ⟨⟨_, rfl⟩, .inl ⟨_, rfl, hJs⟩⟩
end Go.Proofs.Ytpnegofmebfcgaa

/- Slab[string]: All and Len. -/
namespace Go.Proofs.Ytpnegofmebfcgaa
open Go.RowKit Go.Shelf
attribute [local go_sem] Oper.semAt_some
set_option linter.unusedVariables false

theorem allof_in (F : Fence) (n : Nat) (h5 : F.fn 27) (hro : F.round = none) (p : Option Addr) (w : World) :
    CallsIn F n Try.prog 27 #[.pointer p] w fun e w' => e = .returned (.func (.func 48) #[] #[.pointer (some ⟨w.heap.size, 0, none⟩)]) ∧ w' = w.alloc (.cells #[.pointer p] 53) := by
  refine callsIn_of_wp Try.func27 rfl h5 ?_ hro
  simp only [Try.ntmps27, List.size_toArray, List.length_cons, List.length_nil, Nat.reduceAdd, Nat.reduceSub, Array.replicate_succ, Array.replicate_zero, List.push_toArray, List.append_toArray, List.nil_append, List.cons_append]
  gi_wp2
  go_ret
  exact ⟨rfl, rfl⟩

theorem flat_ones {l : List SL} (hx : ∀ s ∈ l, ∃ b : ByteArray, s.x = .string b) : ∀ u ∈ flat l, u.oneCell' = true := by
  induction l with
  | nil => intro u hu; cases hu
  | cons s r ih =>
    intro u hu
    simp only [flat, List.mem_cons] at hu
    rcases hu with rfl | rfl | rfl | rfl | hu
    · rfl
    · rfl
    · rfl
    · obtain ⟨b, hb⟩ := hx s (List.mem_cons_self ..); rw [hb]; rfl
    · exact ih (fun t ht => hx t (List.mem_cons_of_mem _ ht)) u hu

theorem all_stops (F : Fence) (n : Nat) (hf : F.fn 48) (hro : F.round = none) (hn : 1 ≤ n) (Bs ps g : Nat) (l : List SL) (hm : l.length ≤ 4096) (h0l : 0 < l.length) (hx : ∀ s ∈ l, ∃ b : ByteArray, s.x = .string b) (w : World)
    (hB : Bs < w.heap.size) (hBs : w.cell? ⟨Bs, 0, none⟩ = some (.pointer (some ⟨ps, 0, none⟩))) (hS : SlabAt 111 w ps g l) :
    SeqStopsK F n Try.prog 48 #[.pointer (some ⟨Bs, 0, none⟩)] (fun x : SL => #[.agg #[.int .i64 x.slot, .int .i64 x.gen], x.x]) (KT 111 g) (fun ys => ys = l.filter (·.full)) (fun pre => ∃ k, k ≤ l.length ∧ pre = (l.take k).filter (·.full)) l.length w :=
  fun lp J Jx W hW hJ _ hY h0 => alls_in F n hf hro hn lp Bs ps g l hm h0l (flat_ones hx) hx J Jx W hJ hY ((hW.cell (p := ⟨Bs, 0, none⟩) hB).trans hBs) (hS.below hW) h0

set_option maxRecDepth 100000 in
set_option maxHeartbeats 4000000 in
theorem len_in (F : Fence) (n : Nat) (h3 : F.fn 24) (h5 : F.fn 27) (h6 : F.fn 48) (hro : F.round = none) (hn : 3 ≤ n) (ps g : Nat) (l : List SL) (hm : l.length ≤ 4096) (h0l : 0 < l.length) (hx : ∀ s ∈ l, ∃ b : ByteArray, s.x = .string b) (w : World) (hS : SlabAt 111 w ps g l) :
    CallsIn F n Try.prog 24 #[.pointer (some ⟨ps, 0, none⟩)] w fun e W' => e = .returned (.int .i64 (l.filter (·.full)).length) ∧ Below w.heap.size w W' := by
  have h1 : 1 ≤ n := by omega
  refine callsIn_of_wp_marks Try.func24 rfl h3 ?_ hro
  simp only [Try.ntmps24, List.size_toArray, List.length_cons, List.length_nil, Nat.reduceAdd, Nat.reduceSub, Array.replicate_succ, Array.replicate_zero, List.push_toArray, List.append_toArray, List.nil_append, List.cons_append]
  gi_wp2_with (gi_at_call 27; refine (allof_in F (n - 1) h5 hro _ _).mono ?_; rintro e w' ⟨rfl, rfl⟩)
  have hb : ((w.alloc (.cells #[.int .i64 0] 3)).alloc (.cells #[.pointer (some ⟨ps, 0, none⟩)] 53)).cell? ⟨w.heap.size + 1, 0, none⟩ = some (.pointer (some ⟨ps, 0, none⟩)) := by simp [go_sem]
  have hk : ((w.alloc (.cells #[.int .i64 0] 3)).alloc (.cells #[.pointer (some ⟨ps, 0, none⟩)] 53)).heap[w.heap.size]? = some (.cells #[.int .i64 0] 3 (0, 0)) := (Below.heap_alloc _ _ _ (by simp)).trans (heap_alloc_new w _)
  have hB0 : Below w.heap.size w ((w.alloc (.cells #[.int .i64 0] 3)).alloc (.cells #[.pointer (some ⟨ps, 0, none⟩)] 53)) := ((Below.refl _ w).alloc (Nat.le_refl _) _).alloc (by simp) _
  refine wpIn_rangeFunc_ownF hro h1 (gf := 48) (lb := #[.pointer (some ⟨w.heap.size + 1, 0, none⟩)]) rfl h6 (enters_of Try.func48 (by kernel_rfl) rfl)
    (all_stops F (n - 1) h6 hro (by omega) (w.heap.size + 1) ps g l hm h0l hx _ (by simp) hb (hS.below hB0)) KT.trans (KT.putObj (w := ((w.alloc (.cells #[.int .i64 0] 3)).alloc (.cells #[.pointer (some ⟨ps, 0, none⟩)] 53)))) (Below.refl _ _) (fun _ => rfl)
    (fun pre W => (W.cell? ⟨w.heap.size, 0, none⟩ = some (.int .i64 (pre.length : Int)) ∧ W.frozen? ⟨w.heap.size, 0, none⟩ = false ∧ (∀ cur fr, W.heap[w.heap.size]? ≠ some (.cells cur 111 fr))) ∧ Below w.heap.size w W)
    (fun _ _ _ => False)
    (OwnFrom.and (fun s A B row hs hg hr => ⟨cell_kept hs.1 hg (fun r e => (hr r e).2), (frozen_kept hs.1 hg (fun r e => (hr r e).2)).trans hs.2.1, fun cur fr => by
      rw [hg.block w.heap.size (World.block_lt_of_cell? A _ hs.1) (fun e => by have := (hr _ e.symm).1; simp at this; omega)]; exact hs.2.2 cur fr⟩) (ownFrom_below (Nat.le_refl _) (by simp; omega)))
    (fun _ _ _ _ _ hs _ _ => hs)
    ⟨⟨by simp [go_sem], by simp [go_sem], fun cur fr h => by rw [hk] at h; cases h⟩, hB0⟩
    (fun x => { tmps := #[.pointer (some ⟨ps, 0, none⟩), undef, .int .i64 0, .pointer (some ⟨w.heap.size, 0, none⟩), .pointer (some ⟨ps, 0, none⟩), .func (.func 48) #[] #[.pointer (some ⟨w.heap.size + 1, 0, none⟩)], .agg #[.int .i64 x.slot, .int .i64 x.gen], x.x, undef, undef, undef], defers := [] }) ?assign ?body ?done ?stop
  case assign =>
    intro l x W K hK
    gi_wp2
    simpa using hK
  case body =>
    rintro lp pre x W ⟨⟨hc, hf, hne⟩, hB⟩ hlt
    gi_wp2
    exact ⟨KeepsOthers.setCell _ _ _, KT.set (.inr hne), ⟨by rw [List.length_append]; exact World.cell?_setCell_same' _ _ _ (by rw [hc]; rfl), by rw [World.frozen?_setCell]; exact hf, fun cur fr h => by
      have hlt := World.block_lt_of_cell? W _ hc
      cases ho : W.heap[w.heap.size]? with
      | none => rw [Array.getElem?_eq_none_iff] at ho; simp at hlt; omega
      | some o =>
        cases o with
        | cells cs t fr' => simp [World.setCell, Array.getElem?_modify, ho] at h; exact hne cs fr' (by rw [ho, h.2.1])
        | _ => simp [World.setCell, Array.getElem?_modify, ho] at h⟩, hB.setCell (p := ⟨w.heap.size, 0, none⟩) (Nat.le_refl _) _⟩
  case done =>
    rintro D ys W hD rfl ⟨⟨hc, _⟩, hB⟩ hK
    gi_wp2
    refine ⟨by simp, .inl ⟨_, _, rfl, run_takeDeferred hK, ?_⟩⟩
    exact ⟨_, results_tmp rfl _ _ _, rfl, hB.trans (belowK_b (w := w) (Nat.le_refl _) W D _ _ (by simp at hD; omega) hK rfl rfl)⟩
  case stop =>
    rintro D c pre W _ _ h _
    exact h.elim
end Go.Proofs.Ytpnegofmebfcgaa

/- Slab: the closure of All of one instance, its rounds told what they are handed. -/
namespace Go.Proofs.Ytpnegofmebfcgaa
open Go.RowKit Go.Shelf Go.Maps
attribute [local go_sem] Oper.semAt_some
set_option linter.unusedVariables false

set_option maxRecDepth 100000 in
set_option maxHeartbeats 4000000 in
theorem allgs_in (F : Fence) (n : Nat) (hf : F.fn 48) (hro : F.round = none) (hn : 1 ≤ n) (lp Bs ps g : Nat) (l : List SL) (hm : l.length ≤ 4096) (h0l : 0 < l.length) (h1 : ∀ u ∈ flat l, u.oneCell' = true) (hx : ∀ s ∈ l, ∃ b : ByteArray, s.x = .string b) (G : SL → Prop) (hG : ∀ s ∈ l, s.full = true → G s) (J Jx : List SL → World → Prop)
    (W : World) (hJa : AbidesFrom W.heap.size J)
    (hY : ∀ pre x W, G x → J pre W → pre.length < l.length → YieldAt F (n - 1) Try.prog lp #[.agg #[.int .i64 x.slot, .int .i64 x.gen], x.x] W fun e W' =>
      (e = .returned (.bool true) ∧ J (pre ++ [x]) W' ∧ KT 111 g W W') ∨ (e = .returned (.bool false) ∧ Jx (pre ++ [x]) W'))
    (hBs : W.cell? ⟨Bs, 0, none⟩ = some (.pointer (some ⟨ps, 0, none⟩))) (hS : SlabAt 111 W ps g l) (h0 : J [] W) :
    CallsIn F n Try.prog 48 #[.func (.yield lp) #[] #[], .pointer (some ⟨Bs, 0, none⟩)] W fun e W' => (∃ v, e = .returned v) ∧
      ((∃ ys, ys = l.filter (·.full) ∧ J ys W') ∨ (∃ pre, (∃ k, k ≤ l.length ∧ pre = (l.take k).filter (·.full)) ∧ Jx pre W')) := by
  obtain ⟨i0, hi, hz0, hz1, hz2⟩ := info_parts Try.infoE111
  have hp := hS.ptr
  have hnews : ∀ j u, (flat l)[j]? = some u → W.cell? ((⟨g, 0, none⟩ : Addr).add j) = some u := fun j u hu => by
    have e : (⟨g, 0, none⟩ : Addr).add j = ⟨g, j, none⟩ := by unfold Addr.add; split <;> simp_all
    rw [e, hS.cell]; exact hu
  generalize hlen : l.length = len at *
  refine callsIn_of_wp Try.func48 rfl hf ?_ hro
  simp only [Try.ntmps48, List.size_toArray, List.length_cons, List.length_nil, Nat.reduceAdd, Nat.reduceSub, Array.replicate_succ, Array.replicate_zero, List.push_toArray, List.append_toArray, List.nil_append, List.cons_append]
  gi_wp2_with (gi_at_builtin; refine wpListIn_append_own_at _ rfl _ _ 61 (by rfl) W.heap.size 111 i0 (.agg #[.int .i64 0, .int .i64 0, .bool false, .string .empty]) 4 40 Try.underlying61 hi hz0 hz1 hz2 rfl (by decide) (.slice none 0 0) 0 [] (by rfl) ⟨rfl, .inl ⟨rfl, rfl⟩⟩ ⟨g, 0, none⟩ len len (flat l) (by rfl) (by rw [flat_length, hlen]) hnews h1 (by unfold maxLen; omega) (by omega) (Nat.le_refl _) ?_; intro v' w1 hown hgrow hnil hloc; rw [Nat.zero_add, List.nil_append] at hown; obtain ⟨c, cap, rfl, hcb, hcl⟩ := hown.form h0l)
  have hgl := hS.gl
  have J1 : J [] w1 := hJa _ _ _ none h0 hgrow (fun r e => by cases e)
  gi_loopw [13] (fun v wr => ∃ k : Nat, k ≤ len ∧ v = .int .i64 k ∧ J ((l.take k).filter (·.full)) wr ∧ wr.ownsRow W.heap.size 111 4 (.slice (some ⟨c, 0, none⟩) len cap) len (flat l)) (fun v _ => len - (intOf v).toNat)
  case atStart => exact ⟨0, Nat.zero_le _, rfl, J1, hown⟩
  case round =>
    obtain ⟨k, hk, rfl, hJs, ho⟩ := hrel
    by_cases hlt : k < len
    · obtain ⟨s, hs⟩ : ∃ s, l[k]? = some s := ⟨_, List.getElem?_eq_getElem (by omega)⟩
      obtain ⟨e0, e1, e2, e3⟩ := flat_get l k s hs
      have hc := ho.cells (g := c) rfl
      have c0 := hc _ _ e0
      have c1 := hc _ _ e1
      have c2 := hc _ _ e2
      have c3 := hc _ _ e3
      rw [add_off] at c0 c1 c2 c3
      simp only [Nat.zero_add] at c0 c1 c2 c3
      have htk : (l.take (k + 1)).filter (·.full) = (l.take k).filter (·.full) ++ (if s.full then [s] else []) := by
        rw [List.take_add_one, hs, List.filter_append]
        cases hf : s.full <;> simp [hf]
      obtain ⟨xb, hxb⟩ := hx s (List.mem_of_getElem? hs)
      rw [hxb] at c3
      have hJn : ∀ o, J ((l.take k).filter (·.full)) (wr.alloc o) := fun o => hJa _ _ _ none hJs (World.grownBy_alloc wr o none) (fun r e => by cases e)
      cases hfs : s.full
      · rw [hfs] at c2 htk
        rw [if_neg (by decide), List.append_nil] at htk
        gi_wp2
        refine ⟨fun _ h => (by cases h), ?_⟩
        gi_wp2
        go_roundw
        case rel => exact ⟨k + 1, hlt, by go_num, by rw [htk]; exact hJn _, ho.alloc _⟩
        case measure => simp [intOf]; omega
      · rw [hfs] at c2 htk
        rw [if_pos rfl] at htk
        obtain ⟨fn, tmps, assign, body, hy, hR⟩ := hY _ s (wr.alloc (.cells #[.int .i64 s.slot, .int .i64 s.gen, .bool true, .string xb] 111)) (hG s (List.mem_of_getElem? hs) hfs) (hJn _) (Nat.lt_of_le_of_lt (List.length_filter_le _ _) (by rw [List.length_take]; omega))
        rw [hxb] at hy
        gi_wp2
        refine hR.mono ?_
        rintro e W3 (⟨rfl, hJ3, hk3⟩ | ⟨rfl, hJx3⟩)
        · gi_wp2
          go_roundw
          case rel => exact ⟨k + 1, hlt, by go_num, by rw [htk]; exact hJ3, own_kt (ho.alloc _) hk3 hgl⟩
          case measure => simp [intOf]; omega
        · gi_wp2
          refine bodyPost_ret (results_none rfl _ _ _) rfl ?_
          exact ⟨⟨_, rfl⟩, .inr ⟨_, ⟨k + 1, by omega, htk.symm⟩, hJx3⟩⟩
    · obtain rfl : k = len := by omega
      gi_wp2
      go_end0
      have e : l.take k = l := List.take_of_length_le (by omega)
      rw [e] at hJs
      exact ⟨⟨_, rfl⟩, .inl ⟨_, rfl, hJs⟩⟩

theorem allgs_stops (F : Fence) (n : Nat) (hf : F.fn 48) (hro : F.round = none) (hn : 1 ≤ n) (Bs ps g : Nat) (l : List SL) (hm : l.length ≤ 4096) (h0l : 0 < l.length) (hx : ∀ s ∈ l, ∃ b : ByteArray, s.x = .string b) (G : SL → Prop) (hG : ∀ s ∈ l, s.full = true → G s) (w : World)
    (hB : Bs < w.heap.size) (hBs : w.cell? ⟨Bs, 0, none⟩ = some (.pointer (some ⟨ps, 0, none⟩))) (hS : SlabAt 111 w ps g l) :
    SeqStopsK F n Try.prog 48 #[.pointer (some ⟨Bs, 0, none⟩)] (fun x : {s : SL // G s} => #[.agg #[.int .i64 x.1.slot, .int .i64 x.1.gen], x.1.x]) (KT 111 g) (fun ys => ys.map (·.1) = l.filter (·.full)) (fun pre => ∃ k, k ≤ l.length ∧ pre.map (·.1) = (l.take k).filter (·.full)) l.length w := by
  intro lp J Jx W hW hJ _ hY h0
  refine (allgs_in F n hf hro hn lp Bs ps g l hm h0l (flat_ones hx) hx G hG (fun ys W => ∃ zs : List {s : SL // G s}, zs.map (·.1) = ys ∧ J zs W) (fun ys W => ∃ zs : List {s : SL // G s}, zs.map (·.1) = ys ∧ Jx zs W) W ?_ ?_ ((hW.cell (p := ⟨Bs, 0, none⟩) hB).trans hBs) (hS.below hW) ⟨[], rfl, h0⟩).mono ?_
  · rintro ys A B row ⟨zs, hz, hj⟩ hg hr
    exact ⟨zs, hz, hJ zs A B row hj hg hr⟩
  · rintro pre x W1 hgx ⟨zs, rfl, hj⟩ hlt
    refine (hY zs ⟨x, hgx⟩ W1 hj (by simpa using hlt)).mono ?_
    rintro e w1 (⟨he, hj', hk⟩ | ⟨he, hj'⟩)
    · exact .inl ⟨he, ⟨zs ++ [⟨x, hgx⟩], by simp, hj'⟩, hk⟩
    · exact .inr ⟨he, ⟨zs ++ [⟨x, hgx⟩], by simp, hj'⟩⟩
  · rintro e w1 ⟨hv, (⟨ys, hys, zs, hz, hj⟩ | ⟨pre, ⟨j, hj, hp⟩, zs, hz, hjx⟩)⟩
    · exact ⟨hv, .inl ⟨zs, hz.trans hys, hj⟩⟩
    · exact ⟨hv, .inr ⟨zs, ⟨j, hj, hz.trans hp⟩, hjx⟩⟩
end Go.Proofs.Ytpnegofmebfcgaa

/- Slab: the closure of All of one instance. -/
namespace Go.Proofs.Ytpnegofmebfcgaa
open Go.RowKit Go.Shelf Go.Maps
attribute [local go_sem] Oper.semAt_some
set_option linter.unusedVariables false

theorem Try.infoE97 : (Try.prog.info? 97).map (fun i => (i.zero, i.size, i.bytes)) = some (some (.agg #[.int .i64 0, .int .i64 0, .bool false, .pointer none]), 4, 32) := by kernel_rfl

set_option maxRecDepth 100000 in
set_option maxHeartbeats 4000000 in
theorem allp_in (F : Fence) (n : Nat) (hf : F.fn 41) (hro : F.round = none) (hn : 1 ≤ n) (lp Bs ps g : Nat) (l : List SL) (hm : l.length ≤ 4096) (h0l : 0 < l.length) (h1 : ∀ u ∈ flat l, u.oneCell' = true) (hx : ∀ s ∈ l, ∃ b : Option Addr, s.x = .pointer b) (J Jx : List SL → World → Prop)
    (W : World) (hJa : AbidesFrom W.heap.size J)
    (hY : ∀ pre x W, J pre W → pre.length < l.length → YieldAt F (n - 1) Try.prog lp #[.agg #[.int .i64 x.slot, .int .i64 x.gen], x.x] W fun e W' =>
      (e = .returned (.bool true) ∧ J (pre ++ [x]) W' ∧ KT 97 g W W') ∨ (e = .returned (.bool false) ∧ Jx (pre ++ [x]) W'))
    (hBs : W.cell? ⟨Bs, 0, none⟩ = some (.pointer (some ⟨ps, 0, none⟩))) (hS : SlabAt 97 W ps g l) (h0 : J [] W) :
    CallsIn F n Try.prog 41 #[.func (.yield lp) #[] #[], .pointer (some ⟨Bs, 0, none⟩)] W fun e W' => (∃ v, e = .returned v) ∧
      ((∃ ys, ys = l.filter (·.full) ∧ J ys W') ∨ (∃ pre, (∃ k, k ≤ l.length ∧ pre = (l.take k).filter (·.full)) ∧ Jx pre W')) := by
  obtain ⟨i0, hi, hz0, hz1, hz2⟩ := info_parts Try.infoE97
  have hp := hS.ptr
  have hnews : ∀ j u, (flat l)[j]? = some u → W.cell? ((⟨g, 0, none⟩ : Addr).add j) = some u := fun j u hu => by
    have e : (⟨g, 0, none⟩ : Addr).add j = ⟨g, j, none⟩ := by unfold Addr.add; split <;> simp_all
    rw [e, hS.cell]; exact hu
  generalize hlen : l.length = len at *
  refine callsIn_of_wp Try.func41 rfl hf ?_ hro
  simp only [Try.ntmps41, List.size_toArray, List.length_cons, List.length_nil, Nat.reduceAdd, Nat.reduceSub, Array.replicate_succ, Array.replicate_zero, List.push_toArray, List.append_toArray, List.nil_append, List.cons_append]
  gi_wp2_with (gi_at_builtin; refine wpListIn_append_own_at _ rfl _ _ 92 (by rfl) W.heap.size 97 i0 (.agg #[.int .i64 0, .int .i64 0, .bool false, .pointer none]) 4 32 Try.underlying92 hi hz0 hz1 hz2 rfl (by decide) (.slice none 0 0) 0 [] (by rfl) ⟨rfl, .inl ⟨rfl, rfl⟩⟩ ⟨g, 0, none⟩ len len (flat l) (by rfl) (by rw [flat_length, hlen]) hnews h1 (by unfold maxLen; omega) (by omega) (Nat.le_refl _) ?_; intro v' w1 hown hgrow hnil hloc; rw [Nat.zero_add, List.nil_append] at hown; obtain ⟨c, cap, rfl, hcb, hcl⟩ := hown.form h0l)
  have hgl := hS.gl
  have J1 : J [] w1 := hJa _ _ _ none h0 hgrow (fun r e => by cases e)
  gi_loopw [13] (fun v wr => ∃ k : Nat, k ≤ len ∧ v = .int .i64 k ∧ J ((l.take k).filter (·.full)) wr ∧ wr.ownsRow W.heap.size 97 4 (.slice (some ⟨c, 0, none⟩) len cap) len (flat l)) (fun v _ => len - (intOf v).toNat)
  case atStart => exact ⟨0, Nat.zero_le _, rfl, J1, hown⟩
  case round =>
    obtain ⟨k, hk, rfl, hJs, ho⟩ := hrel
    by_cases hlt : k < len
    · obtain ⟨s, hs⟩ : ∃ s, l[k]? = some s := ⟨_, List.getElem?_eq_getElem (by omega)⟩
      obtain ⟨e0, e1, e2, e3⟩ := flat_get l k s hs
      have hc := ho.cells (g := c) rfl
      have c0 := hc _ _ e0
      have c1 := hc _ _ e1
      have c2 := hc _ _ e2
      have c3 := hc _ _ e3
      rw [add_off] at c0 c1 c2 c3
      simp only [Nat.zero_add] at c0 c1 c2 c3
      have htk : (l.take (k + 1)).filter (·.full) = (l.take k).filter (·.full) ++ (if s.full then [s] else []) := by
        rw [List.take_add_one, hs, List.filter_append]
        cases hf : s.full <;> simp [hf]
      obtain ⟨xb, hxb⟩ := hx s (List.mem_of_getElem? hs)
      rw [hxb] at c3
      have hJn : ∀ o, J ((l.take k).filter (·.full)) (wr.alloc o) := fun o => hJa _ _ _ none hJs (World.grownBy_alloc wr o none) (fun r e => by cases e)
      cases hfs : s.full
      · rw [hfs] at c2 htk
        rw [if_neg (by decide), List.append_nil] at htk
        gi_wp2
        refine ⟨fun _ h => (by cases h), ?_⟩
        gi_wp2
        go_roundw
        case rel => exact ⟨k + 1, hlt, by go_num, by rw [htk]; exact hJn _, ho.alloc _⟩
        case measure => simp [intOf]; omega
      · rw [hfs] at c2 htk
        rw [if_pos rfl] at htk
        obtain ⟨fn, tmps, assign, body, hy, hR⟩ := hY _ s (wr.alloc (.cells #[.int .i64 s.slot, .int .i64 s.gen, .bool true, .pointer xb] 97)) (hJn _) (Nat.lt_of_le_of_lt (List.length_filter_le _ _) (by rw [List.length_take]; omega))
        rw [hxb] at hy
        gi_wp2
        refine hR.mono ?_
        rintro e W3 (⟨rfl, hJ3, hk3⟩ | ⟨rfl, hJx3⟩)
        · gi_wp2
          go_roundw
          case rel => exact ⟨k + 1, hlt, by go_num, by rw [htk]; exact hJ3, own_kt (ho.alloc _) hk3 hgl⟩
          case measure => simp [intOf]; omega
        · gi_wp2
          refine bodyPost_ret (results_none rfl _ _ _) rfl ?_
          exact ⟨⟨_, rfl⟩, .inr ⟨_, ⟨k + 1, by omega, htk.symm⟩, hJx3⟩⟩
    · obtain rfl : k = len := by omega
      gi_wp2
      go_end0
      have e : l.take k = l := List.take_of_length_le (by omega)
      rw [e] at hJs
      exact ⟨⟨_, rfl⟩, .inl ⟨_, rfl, hJs⟩⟩
end Go.Proofs.Ytpnegofmebfcgaa

/- Slab (p): All and Len. -/
namespace Go.Proofs.Ytpnegofmebfcgaa
open Go.RowKit Go.Shelf
attribute [local go_sem] Oper.semAt_some
set_option linter.unusedVariables false

theorem allof_in_p (F : Fence) (n : Nat) (h5 : F.fn 14) (hro : F.round = none) (p : Option Addr) (w : World) :
    CallsIn F n Try.prog 14 #[.pointer p] w fun e w' => e = .returned (.func (.func 41) #[] #[.pointer (some ⟨w.heap.size, 0, none⟩)]) ∧ w' = w.alloc (.cells #[.pointer p] 23) := by
  refine callsIn_of_wp Try.func14 rfl h5 ?_ hro
  simp only [Try.ntmps14, List.size_toArray, List.length_cons, List.length_nil, Nat.reduceAdd, Nat.reduceSub, Array.replicate_succ, Array.replicate_zero, List.push_toArray, List.append_toArray, List.nil_append, List.cons_append]
  gi_wp2
  go_ret
  exact ⟨rfl, rfl⟩

theorem flat_ones_p {l : List SL} (hx : ∀ s ∈ l, ∃ b : Option Addr, s.x = .pointer b) : ∀ u ∈ flat l, u.oneCell' = true := by
  induction l with
  | nil => intro u hu; cases hu
  | cons s r ih =>
    intro u hu
    simp only [flat, List.mem_cons] at hu
    rcases hu with rfl | rfl | rfl | rfl | hu
    · rfl
    · rfl
    · rfl
    · obtain ⟨b, hb⟩ := hx s (List.mem_cons_self ..); rw [hb]; rfl
    · exact ih (fun t ht => hx t (List.mem_cons_of_mem _ ht)) u hu

theorem all_stops_p (F : Fence) (n : Nat) (hf : F.fn 41) (hro : F.round = none) (hn : 1 ≤ n) (Bs ps g : Nat) (l : List SL) (hm : l.length ≤ 4096) (h0l : 0 < l.length) (hx : ∀ s ∈ l, ∃ b : Option Addr, s.x = .pointer b) (w : World)
    (hB : Bs < w.heap.size) (hBs : w.cell? ⟨Bs, 0, none⟩ = some (.pointer (some ⟨ps, 0, none⟩))) (hS : SlabAt 97 w ps g l) :
    SeqStopsK F n Try.prog 41 #[.pointer (some ⟨Bs, 0, none⟩)] (fun x : SL => #[.agg #[.int .i64 x.slot, .int .i64 x.gen], x.x]) (KT 97 g) (fun ys => ys = l.filter (·.full)) (fun pre => ∃ k, k ≤ l.length ∧ pre = (l.take k).filter (·.full)) l.length w :=
  fun lp J Jx W hW hJ _ hY h0 => allp_in F n hf hro hn lp Bs ps g l hm h0l (flat_ones_p hx) hx J Jx W hJ hY ((hW.cell (p := ⟨Bs, 0, none⟩) hB).trans hBs) (hS.below hW) h0

set_option maxRecDepth 100000 in
set_option maxHeartbeats 4000000 in
theorem len_in_p (F : Fence) (n : Nat) (h3 : F.fn 15) (h5 : F.fn 14) (h6 : F.fn 41) (hro : F.round = none) (hn : 3 ≤ n) (ps g : Nat) (l : List SL) (hm : l.length ≤ 4096) (h0l : 0 < l.length) (hx : ∀ s ∈ l, ∃ b : Option Addr, s.x = .pointer b) (w : World) (hS : SlabAt 97 w ps g l) :
    CallsIn F n Try.prog 15 #[.pointer (some ⟨ps, 0, none⟩)] w fun e W' => e = .returned (.int .i64 (l.filter (·.full)).length) ∧ Below w.heap.size w W' := by
  have h1 : 1 ≤ n := by omega
  refine callsIn_of_wp_marks Try.func15 rfl h3 ?_ hro
  simp only [Try.ntmps15, List.size_toArray, List.length_cons, List.length_nil, Nat.reduceAdd, Nat.reduceSub, Array.replicate_succ, Array.replicate_zero, List.push_toArray, List.append_toArray, List.nil_append, List.cons_append]
  gi_wp2_with (gi_at_call 14; refine (allof_in_p F (n - 1) h5 hro _ _).mono ?_; rintro e w' ⟨rfl, rfl⟩)
  have hb : ((w.alloc (.cells #[.int .i64 0] 3)).alloc (.cells #[.pointer (some ⟨ps, 0, none⟩)] 23)).cell? ⟨w.heap.size + 1, 0, none⟩ = some (.pointer (some ⟨ps, 0, none⟩)) := by simp [go_sem]
  have hk : ((w.alloc (.cells #[.int .i64 0] 3)).alloc (.cells #[.pointer (some ⟨ps, 0, none⟩)] 23)).heap[w.heap.size]? = some (.cells #[.int .i64 0] 3 (0, 0)) := (Below.heap_alloc _ _ _ (by simp)).trans (heap_alloc_new w _)
  have hB0 : Below w.heap.size w ((w.alloc (.cells #[.int .i64 0] 3)).alloc (.cells #[.pointer (some ⟨ps, 0, none⟩)] 23)) := ((Below.refl _ w).alloc (Nat.le_refl _) _).alloc (by simp) _
  refine wpIn_rangeFunc_ownF hro h1 (gf := 41) (lb := #[.pointer (some ⟨w.heap.size + 1, 0, none⟩)]) rfl h6 (enters_of Try.func41 (by kernel_rfl) rfl)
    (all_stops_p F (n - 1) h6 hro (by omega) (w.heap.size + 1) ps g l hm h0l hx _ (by simp) hb (hS.below hB0)) KT.trans (KT.putObj (w := ((w.alloc (.cells #[.int .i64 0] 3)).alloc (.cells #[.pointer (some ⟨ps, 0, none⟩)] 23)))) (Below.refl _ _) (fun _ => rfl)
    (fun pre W => (W.cell? ⟨w.heap.size, 0, none⟩ = some (.int .i64 (pre.length : Int)) ∧ W.frozen? ⟨w.heap.size, 0, none⟩ = false ∧ (∀ cur fr, W.heap[w.heap.size]? ≠ some (.cells cur 97 fr))) ∧ Below w.heap.size w W)
    (fun _ _ _ => False)
    (OwnFrom.and (fun s A B row hs hg hr => ⟨cell_kept hs.1 hg (fun r e => (hr r e).2), (frozen_kept hs.1 hg (fun r e => (hr r e).2)).trans hs.2.1, fun cur fr => by
      rw [hg.block w.heap.size (World.block_lt_of_cell? A _ hs.1) (fun e => by have := (hr _ e.symm).1; simp at this; omega)]; exact hs.2.2 cur fr⟩) (ownFrom_below (Nat.le_refl _) (by simp; omega)))
    (fun _ _ _ _ _ hs _ _ => hs)
    ⟨⟨by simp [go_sem], by simp [go_sem], fun cur fr h => by rw [hk] at h; cases h⟩, hB0⟩
    (fun x => { tmps := #[.pointer (some ⟨ps, 0, none⟩), undef, .int .i64 0, .pointer (some ⟨w.heap.size, 0, none⟩), .pointer (some ⟨ps, 0, none⟩), .func (.func 41) #[] #[.pointer (some ⟨w.heap.size + 1, 0, none⟩)], .agg #[.int .i64 x.slot, .int .i64 x.gen], x.x, undef, undef, undef], defers := [] }) ?assign ?body ?done ?stop
  case assign =>
    intro l x W K hK
    gi_wp2
    simpa using hK
  case body =>
    rintro lp pre x W ⟨⟨hc, hf, hne⟩, hB⟩ hlt
    gi_wp2
    exact ⟨KeepsOthers.setCell _ _ _, KT.set (.inr hne), ⟨by rw [List.length_append]; exact World.cell?_setCell_same' _ _ _ (by rw [hc]; rfl), by rw [World.frozen?_setCell]; exact hf, fun cur fr h => by
      have hlt := World.block_lt_of_cell? W _ hc
      cases ho : W.heap[w.heap.size]? with
      | none => rw [Array.getElem?_eq_none_iff] at ho; simp at hlt; omega
      | some o =>
        cases o with
        | cells cs t fr' => simp [World.setCell, Array.getElem?_modify, ho] at h; exact hne cs fr' (by rw [ho, h.2.1])
        | _ => simp [World.setCell, Array.getElem?_modify, ho] at h⟩, hB.setCell (p := ⟨w.heap.size, 0, none⟩) (Nat.le_refl _) _⟩
  case done =>
    rintro D ys W hD rfl ⟨⟨hc, _⟩, hB⟩ hK
    gi_wp2
    refine ⟨by simp, .inl ⟨_, _, rfl, run_takeDeferred hK, ?_⟩⟩
    exact ⟨_, results_tmp rfl _ _ _, rfl, hB.trans (belowK_b (w := w) (Nat.le_refl _) W D _ _ (by simp at hD; omega) hK rfl rfl)⟩
  case stop =>
    rintro D c pre W _ _ h _
    exact h.elim
end Go.Proofs.Ytpnegofmebfcgaa

/- Slab (p): Len and Room as plain contracts. -/
namespace Go.Proofs.Ytpnegofmebfcgaa
open Go.RowKit Go.Shelf
attribute [local go_sem] BW.cell BW.frozen
set_option linter.unusedVariables false

theorem len_p (ps g : Nat) (l : List SL) (hm : l.length ≤ 4096) (h0l : 0 < l.length) (hx : ∀ s ∈ l, ∃ b : Option Addr, s.x = .pointer b) (w : World) (hS : SlabAt 97 w ps g l) :
    Calls Try.prog 15 #[.pointer (some ⟨ps, 0, none⟩)] w (Gives (.int .i64 (l.filter (·.full)).length) w) := by
  refine (callsIn_wide (n := 3)).1 ?_
  exact (len_in_p _ 3 trivial trivial trivial rfl (Nat.le_refl _) ps g l hm h0l hx w hS).mono fun e w' ⟨he, hb⟩ => ⟨he, ⟨w', hb⟩, rfl⟩

end Go.Proofs.Ytpnegofmebfcgaa

/- Slab: the closure of All of one instance, its rounds told what they are handed. -/
namespace Go.Proofs.Ytpnegofmebfcgaa
open Go.RowKit Go.Shelf Go.Maps
attribute [local go_sem] Oper.semAt_some
set_option linter.unusedVariables false

set_option maxRecDepth 100000 in
set_option maxHeartbeats 4000000 in
theorem allgp_in (F : Fence) (n : Nat) (hf : F.fn 41) (hro : F.round = none) (hn : 1 ≤ n) (lp Bs ps g : Nat) (l : List SL) (hm : l.length ≤ 4096) (h0l : 0 < l.length) (h1 : ∀ u ∈ flat l, u.oneCell' = true) (hx : ∀ s ∈ l, ∃ b : Option Addr, s.x = .pointer b) (G : SL → Prop) (hG : ∀ s ∈ l, s.full = true → G s) (J Jx : List SL → World → Prop)
    (W : World) (hJa : AbidesFrom W.heap.size J)
    (hY : ∀ pre x W, G x → J pre W → pre.length < l.length → YieldAt F (n - 1) Try.prog lp #[.agg #[.int .i64 x.slot, .int .i64 x.gen], x.x] W fun e W' =>
      (e = .returned (.bool true) ∧ J (pre ++ [x]) W' ∧ KT 97 g W W') ∨ (e = .returned (.bool false) ∧ Jx (pre ++ [x]) W'))
    (hBs : W.cell? ⟨Bs, 0, none⟩ = some (.pointer (some ⟨ps, 0, none⟩))) (hS : SlabAt 97 W ps g l) (h0 : J [] W) :
    CallsIn F n Try.prog 41 #[.func (.yield lp) #[] #[], .pointer (some ⟨Bs, 0, none⟩)] W fun e W' => (∃ v, e = .returned v) ∧
      ((∃ ys, ys = l.filter (·.full) ∧ J ys W') ∨ (∃ pre, (∃ k, k ≤ l.length ∧ pre = (l.take k).filter (·.full)) ∧ Jx pre W')) := by
  obtain ⟨i0, hi, hz0, hz1, hz2⟩ := info_parts Try.infoE97
  have hp := hS.ptr
  have hnews : ∀ j u, (flat l)[j]? = some u → W.cell? ((⟨g, 0, none⟩ : Addr).add j) = some u := fun j u hu => by
    have e : (⟨g, 0, none⟩ : Addr).add j = ⟨g, j, none⟩ := by unfold Addr.add; split <;> simp_all
    rw [e, hS.cell]; exact hu
  generalize hlen : l.length = len at *
  refine callsIn_of_wp Try.func41 rfl hf ?_ hro
  simp only [Try.ntmps41, List.size_toArray, List.length_cons, List.length_nil, Nat.reduceAdd, Nat.reduceSub, Array.replicate_succ, Array.replicate_zero, List.push_toArray, List.append_toArray, List.nil_append, List.cons_append]
  gi_wp2_with (gi_at_builtin; refine wpListIn_append_own_at _ rfl _ _ 92 (by rfl) W.heap.size 97 i0 (.agg #[.int .i64 0, .int .i64 0, .bool false, .pointer none]) 4 32 Try.underlying92 hi hz0 hz1 hz2 rfl (by decide) (.slice none 0 0) 0 [] (by rfl) ⟨rfl, .inl ⟨rfl, rfl⟩⟩ ⟨g, 0, none⟩ len len (flat l) (by rfl) (by rw [flat_length, hlen]) hnews h1 (by unfold maxLen; omega) (by omega) (Nat.le_refl _) ?_; intro v' w1 hown hgrow hnil hloc; rw [Nat.zero_add, List.nil_append] at hown; obtain ⟨c, cap, rfl, hcb, hcl⟩ := hown.form h0l)
  have hgl := hS.gl
  have J1 : J [] w1 := hJa _ _ _ none h0 hgrow (fun r e => by cases e)
  gi_loopw [13] (fun v wr => ∃ k : Nat, k ≤ len ∧ v = .int .i64 k ∧ J ((l.take k).filter (·.full)) wr ∧ wr.ownsRow W.heap.size 97 4 (.slice (some ⟨c, 0, none⟩) len cap) len (flat l)) (fun v _ => len - (intOf v).toNat)
  case atStart => exact ⟨0, Nat.zero_le _, rfl, J1, hown⟩
  case round =>
    obtain ⟨k, hk, rfl, hJs, ho⟩ := hrel
    by_cases hlt : k < len
    · obtain ⟨s, hs⟩ : ∃ s, l[k]? = some s := ⟨_, List.getElem?_eq_getElem (by omega)⟩
      obtain ⟨e0, e1, e2, e3⟩ := flat_get l k s hs
      have hc := ho.cells (g := c) rfl
      have c0 := hc _ _ e0
      have c1 := hc _ _ e1
      have c2 := hc _ _ e2
      have c3 := hc _ _ e3
      rw [add_off] at c0 c1 c2 c3
      simp only [Nat.zero_add] at c0 c1 c2 c3
      have htk : (l.take (k + 1)).filter (·.full) = (l.take k).filter (·.full) ++ (if s.full then [s] else []) := by
        rw [List.take_add_one, hs, List.filter_append]
        cases hf : s.full <;> simp [hf]
      obtain ⟨xb, hxb⟩ := hx s (List.mem_of_getElem? hs)
      rw [hxb] at c3
      have hJn : ∀ o, J ((l.take k).filter (·.full)) (wr.alloc o) := fun o => hJa _ _ _ none hJs (World.grownBy_alloc wr o none) (fun r e => by cases e)
      cases hfs : s.full
      · rw [hfs] at c2 htk
        rw [if_neg (by decide), List.append_nil] at htk
        gi_wp2
        refine ⟨fun _ h => (by cases h), ?_⟩
        gi_wp2
        go_roundw
        case rel => exact ⟨k + 1, hlt, by go_num, by rw [htk]; exact hJn _, ho.alloc _⟩
        case measure => simp [intOf]; omega
      · rw [hfs] at c2 htk
        rw [if_pos rfl] at htk
        obtain ⟨fn, tmps, assign, body, hy, hR⟩ := hY _ s (wr.alloc (.cells #[.int .i64 s.slot, .int .i64 s.gen, .bool true, .pointer xb] 97)) (hG s (List.mem_of_getElem? hs) hfs) (hJn _) (Nat.lt_of_le_of_lt (List.length_filter_le _ _) (by rw [List.length_take]; omega))
        rw [hxb] at hy
        gi_wp2
        refine hR.mono ?_
        rintro e W3 (⟨rfl, hJ3, hk3⟩ | ⟨rfl, hJx3⟩)
        · gi_wp2
          go_roundw
          case rel => exact ⟨k + 1, hlt, by go_num, by rw [htk]; exact hJ3, own_kt (ho.alloc _) hk3 hgl⟩
          case measure => simp [intOf]; omega
        · gi_wp2
          refine bodyPost_ret (results_none rfl _ _ _) rfl ?_
          exact ⟨⟨_, rfl⟩, .inr ⟨_, ⟨k + 1, by omega, htk.symm⟩, hJx3⟩⟩
    · obtain rfl : k = len := by omega
      gi_wp2
      go_end0
      have e : l.take k = l := List.take_of_length_le (by omega)
      rw [e] at hJs
      exact ⟨⟨_, rfl⟩, .inl ⟨_, rfl, hJs⟩⟩

theorem allgp_stops (F : Fence) (n : Nat) (hf : F.fn 41) (hro : F.round = none) (hn : 1 ≤ n) (Bs ps g : Nat) (l : List SL) (hm : l.length ≤ 4096) (h0l : 0 < l.length) (hx : ∀ s ∈ l, ∃ b : Option Addr, s.x = .pointer b) (G : SL → Prop) (hG : ∀ s ∈ l, s.full = true → G s) (w : World)
    (hB : Bs < w.heap.size) (hBs : w.cell? ⟨Bs, 0, none⟩ = some (.pointer (some ⟨ps, 0, none⟩))) (hS : SlabAt 97 w ps g l) :
    SeqStopsK F n Try.prog 41 #[.pointer (some ⟨Bs, 0, none⟩)] (fun x : {s : SL // G s} => #[.agg #[.int .i64 x.1.slot, .int .i64 x.1.gen], x.1.x]) (KT 97 g) (fun ys => ys.map (·.1) = l.filter (·.full)) (fun pre => ∃ k, k ≤ l.length ∧ pre.map (·.1) = (l.take k).filter (·.full)) l.length w := by
  intro lp J Jx W hW hJ _ hY h0
  refine (allgp_in F n hf hro hn lp Bs ps g l hm h0l (flat_ones_p hx) hx G hG (fun ys W => ∃ zs : List {s : SL // G s}, zs.map (·.1) = ys ∧ J zs W) (fun ys W => ∃ zs : List {s : SL // G s}, zs.map (·.1) = ys ∧ Jx zs W) W ?_ ?_ ((hW.cell (p := ⟨Bs, 0, none⟩) hB).trans hBs) (hS.below hW) ⟨[], rfl, h0⟩).mono ?_
  · rintro ys A B row ⟨zs, hz, hj⟩ hg hr
    exact ⟨zs, hz, hJ zs A B row hj hg hr⟩
  · rintro pre x W1 hgx ⟨zs, rfl, hj⟩ hlt
    refine (hY zs ⟨x, hgx⟩ W1 hj (by simpa using hlt)).mono ?_
    rintro e w1 (⟨he, hj', hk⟩ | ⟨he, hj'⟩)
    · exact .inl ⟨he, ⟨zs ++ [⟨x, hgx⟩], by simp, hj'⟩, hk⟩
    · exact .inr ⟨he, ⟨zs ++ [⟨x, hgx⟩], by simp, hj'⟩⟩
  · rintro e w1 ⟨hv, (⟨ys, hys, zs, hz, hj⟩ | ⟨pre, ⟨j, hj, hp⟩, zs, hz, hjx⟩)⟩
    · exact ⟨hv, .inl ⟨zs, hz.trans hys, hj⟩⟩
    · exact ⟨hv, .inr ⟨zs, ⟨j, hj, hz.trans hp⟩, hjx⟩⟩
end Go.Proofs.Ytpnegofmebfcgaa

/- Slab[string]: Len and Room as plain contracts. -/
namespace Go.Proofs.Ytpnegofmebfcgaa
open Go.RowKit Go.Shelf
attribute [local go_sem] BW.cell BW.frozen
set_option linter.unusedVariables false

theorem len_s (ps g : Nat) (l : List SL) (hm : l.length ≤ 4096) (h0l : 0 < l.length) (hx : ∀ s ∈ l, ∃ b : ByteArray, s.x = .string b) (w : World) (hS : SlabAt 111 w ps g l) :
    Calls Try.prog 24 #[.pointer (some ⟨ps, 0, none⟩)] w (Gives (.int .i64 (l.filter (·.full)).length) w) := by
  refine (callsIn_wide (n := 3)).1 ?_
  exact (len_in _ 3 trivial trivial trivial rfl (Nat.le_refl _) ps g l hm h0l hx w hS).mono fun e w' ⟨he, hb⟩ => ⟨he, ⟨w', hb⟩, rfl⟩

set_option maxHeartbeats 2000000 in
theorem room_s (ps g : Nat) (l : List SL) (hm : l.length ≤ 4096) (h0l : 0 < l.length) (hx : ∀ s ∈ l, ∃ b : ByteArray, s.x = .string b) (w : World) (hS : SlabAt 111 w ps g l) :
    Calls Try.prog 25 #[.pointer (some ⟨ps, 0, none⟩)] w (Gives (.int .i64 ((l.length : Int) - (l.filter (·.full)).length)) w) := by
  have hp := hS.ptr
  have hpl := hS.pl
  have K := fun w (hS : SlabAt 111 w ps g l) => len_s ps g l hm h0l hx w hS
  have hle := List.length_filter_le (·.full) l
  generalize (l.filter (·.full)).length = m at *
  have HK := Lib.hid K
  have HS := Lib.hid hS
  clear K hx hS
  go_enter Try.func25, Try.ntmps25
  go_wp2_with fail
  refine wp_region_bw w.heap.size _ (Below.refl _ _) (by kernel_rfl) (by kernel_rfl) ?_
  repeat (go_big_quiet_step ((go_at_call 24; exact Calls.bw_of (by simp) (HK.out _ (HS.out.below (BW.h _))))))
  refine wpQuiet_nil ?_
  intro x
  go_wp2
  go_ret
  exact gives_of_eq rfl x.h
end Go.Proofs.Ytpnegofmebfcgaa

/- Slab: the closure of All of one instance. -/
namespace Go.Proofs.Ytpnegofmebfcgaa
open Go.RowKit Go.Shelf Go.Maps
attribute [local go_sem] Oper.semAt_some
set_option linter.unusedVariables false

theorem Try.infoE120 : (Try.prog.info? 120).map (fun i => (i.zero, i.size, i.bytes)) = some (some (.agg #[.int .i64 0, .int .i64 0, .bool false, .int .i64 0]), 4, 32) := by kernel_rfl

set_option maxRecDepth 100000 in
set_option maxHeartbeats 4000000 in
theorem alli_in (F : Fence) (n : Nat) (hf : F.fn 53) (hro : F.round = none) (hn : 1 ≤ n) (lp Bs ps g : Nat) (l : List SL) (hm : l.length ≤ 4096) (h0l : 0 < l.length) (h1 : ∀ u ∈ flat l, u.oneCell' = true) (hx : ∀ s ∈ l, ∃ b : Int, s.x = .int .i64 b) (J Jx : List SL → World → Prop)
    (W : World) (hJa : AbidesFrom W.heap.size J)
    (hY : ∀ pre x W, J pre W → pre.length < l.length → YieldAt F (n - 1) Try.prog lp #[.agg #[.int .i64 x.slot, .int .i64 x.gen], x.x] W fun e W' =>
      (e = .returned (.bool true) ∧ J (pre ++ [x]) W' ∧ KT 120 g W W') ∨ (e = .returned (.bool false) ∧ Jx (pre ++ [x]) W'))
    (hBs : W.cell? ⟨Bs, 0, none⟩ = some (.pointer (some ⟨ps, 0, none⟩))) (hS : SlabAt 120 W ps g l) (h0 : J [] W) :
    CallsIn F n Try.prog 53 #[.func (.yield lp) #[] #[], .pointer (some ⟨Bs, 0, none⟩)] W fun e W' => (∃ v, e = .returned v) ∧
      ((∃ ys, ys = l.filter (·.full) ∧ J ys W') ∨ (∃ pre, (∃ k, k ≤ l.length ∧ pre = (l.take k).filter (·.full)) ∧ Jx pre W')) := by
  obtain ⟨i0, hi, hz0, hz1, hz2⟩ := info_parts Try.infoE120
  have hp := hS.ptr
  have hnews : ∀ j u, (flat l)[j]? = some u → W.cell? ((⟨g, 0, none⟩ : Addr).add j) = some u := fun j u hu => by
    have e : (⟨g, 0, none⟩ : Addr).add j = ⟨g, j, none⟩ := by unfold Addr.add; split <;> simp_all
    rw [e, hS.cell]; exact hu
  generalize hlen : l.length = len at *
  refine callsIn_of_wp Try.func53 rfl hf ?_ hro
  simp only [Try.ntmps53, List.size_toArray, List.length_cons, List.length_nil, Nat.reduceAdd, Nat.reduceSub, Array.replicate_succ, Array.replicate_zero, List.push_toArray, List.append_toArray, List.nil_append, List.cons_append]
  gi_wp2_with (gi_at_builtin; refine wpListIn_append_own_at _ rfl _ _ 115 (by rfl) W.heap.size 120 i0 (.agg #[.int .i64 0, .int .i64 0, .bool false, .int .i64 0]) 4 32 Try.underlying115 hi hz0 hz1 hz2 rfl (by decide) (.slice none 0 0) 0 [] (by rfl) ⟨rfl, .inl ⟨rfl, rfl⟩⟩ ⟨g, 0, none⟩ len len (flat l) (by rfl) (by rw [flat_length, hlen]) hnews h1 (by unfold maxLen; omega) (by omega) (Nat.le_refl _) ?_; intro v' w1 hown hgrow hnil hloc; rw [Nat.zero_add, List.nil_append] at hown; obtain ⟨c, cap, rfl, hcb, hcl⟩ := hown.form h0l)
  have hgl := hS.gl
  have J1 : J [] w1 := hJa _ _ _ none h0 hgrow (fun r e => by cases e)
  gi_loopw [13] (fun v wr => ∃ k : Nat, k ≤ len ∧ v = .int .i64 k ∧ J ((l.take k).filter (·.full)) wr ∧ wr.ownsRow W.heap.size 120 4 (.slice (some ⟨c, 0, none⟩) len cap) len (flat l)) (fun v _ => len - (intOf v).toNat)
  case atStart => exact ⟨0, Nat.zero_le _, rfl, J1, hown⟩
  case round =>
    obtain ⟨k, hk, rfl, hJs, ho⟩ := hrel
    by_cases hlt : k < len
    · obtain ⟨s, hs⟩ : ∃ s, l[k]? = some s := ⟨_, List.getElem?_eq_getElem (by omega)⟩
      obtain ⟨e0, e1, e2, e3⟩ := flat_get l k s hs
      have hc := ho.cells (g := c) rfl
      have c0 := hc _ _ e0
      have c1 := hc _ _ e1
      have c2 := hc _ _ e2
      have c3 := hc _ _ e3
      rw [add_off] at c0 c1 c2 c3
      simp only [Nat.zero_add] at c0 c1 c2 c3
      have htk : (l.take (k + 1)).filter (·.full) = (l.take k).filter (·.full) ++ (if s.full then [s] else []) := by
        rw [List.take_add_one, hs, List.filter_append]
        cases hf : s.full <;> simp [hf]
      obtain ⟨xb, hxb⟩ := hx s (List.mem_of_getElem? hs)
      rw [hxb] at c3
      have hJn : ∀ o, J ((l.take k).filter (·.full)) (wr.alloc o) := fun o => hJa _ _ _ none hJs (World.grownBy_alloc wr o none) (fun r e => by cases e)
      cases hfs : s.full
      · rw [hfs] at c2 htk
        rw [if_neg (by decide), List.append_nil] at htk
        gi_wp2
        refine ⟨fun _ h => (by cases h), ?_⟩
        gi_wp2
        go_roundw
        case rel => exact ⟨k + 1, hlt, by go_num, by rw [htk]; exact hJn _, ho.alloc _⟩
        case measure => simp [intOf]; omega
      · rw [hfs] at c2 htk
        rw [if_pos rfl] at htk
        obtain ⟨fn, tmps, assign, body, hy, hR⟩ := hY _ s (wr.alloc (.cells #[.int .i64 s.slot, .int .i64 s.gen, .bool true, .int .i64 xb] 120)) (hJn _) (Nat.lt_of_le_of_lt (List.length_filter_le _ _) (by rw [List.length_take]; omega))
        rw [hxb] at hy
        gi_wp2
        refine hR.mono ?_
        rintro e W3 (⟨rfl, hJ3, hk3⟩ | ⟨rfl, hJx3⟩)
        · gi_wp2
          go_roundw
          case rel => exact ⟨k + 1, hlt, by go_num, by rw [htk]; exact hJ3, own_kt (ho.alloc _) hk3 hgl⟩
          case measure => simp [intOf]; omega
        · gi_wp2
          refine bodyPost_ret (results_none rfl _ _ _) rfl ?_
          exact ⟨⟨_, rfl⟩, .inr ⟨_, ⟨k + 1, by omega, htk.symm⟩, hJx3⟩⟩
    · obtain rfl : k = len := by omega
      gi_wp2
      go_end0
      have e : l.take k = l := List.take_of_length_le (by omega)
      rw [e] at hJs
      exact ⟨⟨_, rfl⟩, .inl ⟨_, rfl, hJs⟩⟩
end Go.Proofs.Ytpnegofmebfcgaa

/- Slab (i): All and Len. -/
namespace Go.Proofs.Ytpnegofmebfcgaa
open Go.RowKit Go.Shelf
attribute [local go_sem] Oper.semAt_some
set_option linter.unusedVariables false

theorem allof_in_i (F : Fence) (n : Nat) (h5 : F.fn 52) (hro : F.round = none) (p : Option Addr) (w : World) :
    CallsIn F n Try.prog 52 #[.pointer p] w fun e w' => e = .returned (.func (.func 53) #[] #[.pointer (some ⟨w.heap.size, 0, none⟩)]) ∧ w' = w.alloc (.cells #[.pointer p] 84) := by
  refine callsIn_of_wp Try.func52 rfl h5 ?_ hro
  simp only [Try.ntmps52, List.size_toArray, List.length_cons, List.length_nil, Nat.reduceAdd, Nat.reduceSub, Array.replicate_succ, Array.replicate_zero, List.push_toArray, List.append_toArray, List.nil_append, List.cons_append]
  gi_wp2
  go_ret
  exact ⟨rfl, rfl⟩

theorem flat_ones_i {l : List SL} (hx : ∀ s ∈ l, ∃ b : Int, s.x = .int .i64 b) : ∀ u ∈ flat l, u.oneCell' = true := by
  induction l with
  | nil => intro u hu; cases hu
  | cons s r ih =>
    intro u hu
    simp only [flat, List.mem_cons] at hu
    rcases hu with rfl | rfl | rfl | rfl | hu
    · rfl
    · rfl
    · rfl
    · obtain ⟨b, hb⟩ := hx s (List.mem_cons_self ..); rw [hb]; rfl
    · exact ih (fun t ht => hx t (List.mem_cons_of_mem _ ht)) u hu

theorem all_stops_i (F : Fence) (n : Nat) (hf : F.fn 53) (hro : F.round = none) (hn : 1 ≤ n) (Bs ps g : Nat) (l : List SL) (hm : l.length ≤ 4096) (h0l : 0 < l.length) (hx : ∀ s ∈ l, ∃ b : Int, s.x = .int .i64 b) (w : World)
    (hB : Bs < w.heap.size) (hBs : w.cell? ⟨Bs, 0, none⟩ = some (.pointer (some ⟨ps, 0, none⟩))) (hS : SlabAt 120 w ps g l) :
    SeqStopsK F n Try.prog 53 #[.pointer (some ⟨Bs, 0, none⟩)] (fun x : SL => #[.agg #[.int .i64 x.slot, .int .i64 x.gen], x.x]) (KT 120 g) (fun ys => ys = l.filter (·.full)) (fun pre => ∃ k, k ≤ l.length ∧ pre = (l.take k).filter (·.full)) l.length w :=
  fun lp J Jx W hW hJ _ hY h0 => alli_in F n hf hro hn lp Bs ps g l hm h0l (flat_ones_i hx) hx J Jx W hJ hY ((hW.cell (p := ⟨Bs, 0, none⟩) hB).trans hBs) (hS.below hW) h0

set_option maxRecDepth 100000 in
set_option maxHeartbeats 4000000 in
theorem len_in_i (F : Fence) (n : Nat) (h3 : F.fn 35) (h5 : F.fn 52) (h6 : F.fn 53) (hro : F.round = none) (hn : 3 ≤ n) (ps g : Nat) (l : List SL) (hm : l.length ≤ 4096) (h0l : 0 < l.length) (hx : ∀ s ∈ l, ∃ b : Int, s.x = .int .i64 b) (w : World) (hS : SlabAt 120 w ps g l) :
    CallsIn F n Try.prog 35 #[.pointer (some ⟨ps, 0, none⟩)] w fun e W' => e = .returned (.int .i64 (l.filter (·.full)).length) ∧ Below w.heap.size w W' := by
  have h1 : 1 ≤ n := by omega
  refine callsIn_of_wp_marks Try.func35 rfl h3 ?_ hro
  simp only [Try.ntmps35, List.size_toArray, List.length_cons, List.length_nil, Nat.reduceAdd, Nat.reduceSub, Array.replicate_succ, Array.replicate_zero, List.push_toArray, List.append_toArray, List.nil_append, List.cons_append]
  gi_wp2_with (gi_at_call 52; refine (allof_in_i F (n - 1) h5 hro _ _).mono ?_; rintro e w' ⟨rfl, rfl⟩)
  have hb : ((w.alloc (.cells #[.int .i64 0] 3)).alloc (.cells #[.pointer (some ⟨ps, 0, none⟩)] 84)).cell? ⟨w.heap.size + 1, 0, none⟩ = some (.pointer (some ⟨ps, 0, none⟩)) := by simp [go_sem]
  have hk : ((w.alloc (.cells #[.int .i64 0] 3)).alloc (.cells #[.pointer (some ⟨ps, 0, none⟩)] 84)).heap[w.heap.size]? = some (.cells #[.int .i64 0] 3 (0, 0)) := (Below.heap_alloc _ _ _ (by simp)).trans (heap_alloc_new w _)
  have hB0 : Below w.heap.size w ((w.alloc (.cells #[.int .i64 0] 3)).alloc (.cells #[.pointer (some ⟨ps, 0, none⟩)] 84)) := ((Below.refl _ w).alloc (Nat.le_refl _) _).alloc (by simp) _
  refine wpIn_rangeFunc_ownF hro h1 (gf := 53) (lb := #[.pointer (some ⟨w.heap.size + 1, 0, none⟩)]) rfl h6 (enters_of Try.func53 (by kernel_rfl) rfl)
    (all_stops_i F (n - 1) h6 hro (by omega) (w.heap.size + 1) ps g l hm h0l hx _ (by simp) hb (hS.below hB0)) KT.trans (KT.putObj (w := ((w.alloc (.cells #[.int .i64 0] 3)).alloc (.cells #[.pointer (some ⟨ps, 0, none⟩)] 84)))) (Below.refl _ _) (fun _ => rfl)
    (fun pre W => (W.cell? ⟨w.heap.size, 0, none⟩ = some (.int .i64 (pre.length : Int)) ∧ W.frozen? ⟨w.heap.size, 0, none⟩ = false ∧ (∀ cur fr, W.heap[w.heap.size]? ≠ some (.cells cur 120 fr))) ∧ Below w.heap.size w W)
    (fun _ _ _ => False)
    (OwnFrom.and (fun s A B row hs hg hr => ⟨cell_kept hs.1 hg (fun r e => (hr r e).2), (frozen_kept hs.1 hg (fun r e => (hr r e).2)).trans hs.2.1, fun cur fr => by
      rw [hg.block w.heap.size (World.block_lt_of_cell? A _ hs.1) (fun e => by have := (hr _ e.symm).1; simp at this; omega)]; exact hs.2.2 cur fr⟩) (ownFrom_below (Nat.le_refl _) (by simp; omega)))
    (fun _ _ _ _ _ hs _ _ => hs)
    ⟨⟨by simp [go_sem], by simp [go_sem], fun cur fr h => by rw [hk] at h; cases h⟩, hB0⟩
    (fun x => { tmps := #[.pointer (some ⟨ps, 0, none⟩), undef, .int .i64 0, .pointer (some ⟨w.heap.size, 0, none⟩), .pointer (some ⟨ps, 0, none⟩), .func (.func 53) #[] #[.pointer (some ⟨w.heap.size + 1, 0, none⟩)], .agg #[.int .i64 x.slot, .int .i64 x.gen], x.x, undef, undef, undef], defers := [] }) ?assign ?body ?done ?stop
  case assign =>
    intro l x W K hK
    gi_wp2
    simpa using hK
  case body =>
    rintro lp pre x W ⟨⟨hc, hf, hne⟩, hB⟩ hlt
    gi_wp2
    exact ⟨KeepsOthers.setCell _ _ _, KT.set (.inr hne), ⟨by rw [List.length_append]; exact World.cell?_setCell_same' _ _ _ (by rw [hc]; rfl), by rw [World.frozen?_setCell]; exact hf, fun cur fr h => by
      have hlt := World.block_lt_of_cell? W _ hc
      cases ho : W.heap[w.heap.size]? with
      | none => rw [Array.getElem?_eq_none_iff] at ho; simp at hlt; omega
      | some o =>
        cases o with
        | cells cs t fr' => simp [World.setCell, Array.getElem?_modify, ho] at h; exact hne cs fr' (by rw [ho, h.2.1])
        | _ => simp [World.setCell, Array.getElem?_modify, ho] at h⟩, hB.setCell (p := ⟨w.heap.size, 0, none⟩) (Nat.le_refl _) _⟩
  case done =>
    rintro D ys W hD rfl ⟨⟨hc, _⟩, hB⟩ hK
    gi_wp2
    refine ⟨by simp, .inl ⟨_, _, rfl, run_takeDeferred hK, ?_⟩⟩
    exact ⟨_, results_tmp rfl _ _ _, rfl, hB.trans (belowK_b (w := w) (Nat.le_refl _) W D _ _ (by simp at hD; omega) hK rfl rfl)⟩
  case stop =>
    rintro D c pre W _ _ h _
    exact h.elim
end Go.Proofs.Ytpnegofmebfcgaa

/- Slab (i): Len and Room as plain contracts. -/
namespace Go.Proofs.Ytpnegofmebfcgaa
open Go.RowKit Go.Shelf
attribute [local go_sem] BW.cell BW.frozen
set_option linter.unusedVariables false

theorem len_i (ps g : Nat) (l : List SL) (hm : l.length ≤ 4096) (h0l : 0 < l.length) (hx : ∀ s ∈ l, ∃ b : Int, s.x = .int .i64 b) (w : World) (hS : SlabAt 120 w ps g l) :
    Calls Try.prog 35 #[.pointer (some ⟨ps, 0, none⟩)] w (Gives (.int .i64 (l.filter (·.full)).length) w) := by
  refine (callsIn_wide (n := 3)).1 ?_
  exact (len_in_i _ 3 trivial trivial trivial rfl (Nat.le_refl _) ps g l hm h0l hx w hS).mono fun e w' ⟨he, hb⟩ => ⟨he, ⟨w', hb⟩, rfl⟩

set_option maxHeartbeats 2000000 in
theorem room_i (ps g : Nat) (l : List SL) (hm : l.length ≤ 4096) (h0l : 0 < l.length) (hx : ∀ s ∈ l, ∃ b : Int, s.x = .int .i64 b) (w : World) (hS : SlabAt 120 w ps g l) :
    Calls Try.prog 36 #[.pointer (some ⟨ps, 0, none⟩)] w (Gives (.int .i64 ((l.length : Int) - (l.filter (·.full)).length)) w) := by
  have hp := hS.ptr
  have hpl := hS.pl
  have K := fun w (hS : SlabAt 120 w ps g l) => len_i ps g l hm h0l hx w hS
  have hle := List.length_filter_le (·.full) l
  generalize (l.filter (·.full)).length = m at *
  have HK := Lib.hid K
  have HS := Lib.hid hS
  clear K hx hS
  go_enter Try.func36, Try.ntmps36
  go_wp2_with fail
  refine wp_region_bw w.heap.size _ (Below.refl _ _) (by kernel_rfl) (by kernel_rfl) ?_
  repeat (go_big_quiet_step ((go_at_call 35; exact Calls.bw_of (by simp) (HK.out _ (HS.out.below (BW.h _))))))
  refine wpQuiet_nil ?_
  intro x
  go_wp2
  go_ret
  exact gives_of_eq rfl x.h
end Go.Proofs.Ytpnegofmebfcgaa

/- Slab: the closure of All of one instance, its rounds told what they are handed, keeping only what the loop itself has made. -/
namespace Go.Proofs.Ytpnegofmebfcgaa
open Go.RowKit Go.Shelf Go.Maps
attribute [local go_sem] Oper.semAt_some
set_option linter.unusedVariables false

/-- blocks of element type T from n0 on stay -/
structure KN (T : TypeId) (n0 : Nat) (W W' : World) : Prop where
  size : W.heap.size ≤ W'.heap.size
  same : ∀ (k : Nat) (cur : Array Value) (fr : Nat × Nat), n0 ≤ k → W.heap[k]? = some (.cells cur T fr) → W'.heap[k]? = some (.cells cur T fr)
theorem KN.trans {T : TypeId} {n0 : Nat} {A B C : World} (h : KN T n0 A B) (k : KN T n0 B C) : KN T n0 A C :=
  ⟨Nat.le_trans h.size k.size, fun i cur fr hi hh => k.same i cur fr hi (h.same i cur fr hi hh)⟩
theorem KN.grown {T : TypeId} {n0 : Nat} {W W' : World} {row : Option Nat} (h : W.grownBy W' row) (hr : ∀ k, row = some k → k < n0 ∨ ∀ cur fr, W.heap[k]? ≠ some (.cells cur T fr)) : KN T n0 W W' :=
  ⟨h.size, fun k cur fr hk hh => by
    have hlt : k < W.heap.size := (Array.getElem?_eq_some_iff.1 hh).1
    refine (h.block k hlt (fun e => ?_)).trans hh
    rcases hr k e.symm with h1 | h1
    · omega
    · exact h1 cur fr hh⟩
theorem KN.putObj {T : TypeId} {n0 : Nat} {w : World} (W : World) (l : Nat) (o o' : Obj) (_ : w.heap.size ≤ l) (h : W.heap[l]? = some o) (hc : o.isCells = false) (_ : o.isWalk = false) : KN T n0 W (W.putObj l o') :=
  KN.grown (grownBy_putObj' W l o') (fun k e => by
    cases e
    exact .inr fun cur fr h2 => by rw [h] at h2; cases h2; cases hc)
theorem KN.below {T : TypeId} {n0 : Nat} {W W' : World} (h : Below W.heap.size W W') : KN T n0 W W' := KN.grown (row := none) (below_grown h) (fun k e => by cases e)
theorem KN.set {T : TypeId} {n0 : Nat} {W : World} {B i : Nat} {v : Value} (h : B < n0 ∨ ∀ cur fr, W.heap[B]? ≠ some (.cells cur T fr)) : KN T n0 W (W.setCell ⟨B, i, none⟩ v) :=
  KN.grown (grownBy_set W B i v) (fun k e => by cases e; exact h)
theorem own_kn {T : TypeId} {w w' : World} {base n0 size n : Nat} {v : Value} {xs : List Value} (h : w.ownsRow base T size v n xs) (hk : KN T n0 w w') (hb : n0 ≤ base) : w'.ownsRow base T size v n xs := by
  obtain ⟨hl, h | ⟨c, cap, cur, hv, hb', hh, r⟩⟩ := h
  · exact ⟨hl, .inl h⟩
  · exact ⟨hl, .inr ⟨c, cap, cur, hv, hb', hk.same c cur _ (by omega) hh, r⟩⟩

set_option maxRecDepth 100000 in
set_option maxHeartbeats 4000000 in
theorem allns_in (F : Fence) (n : Nat) (hf : F.fn 48) (hro : F.round = none) (hn : 1 ≤ n) (lp Bs ps g : Nat) (l : List SL) (hm : l.length ≤ 4096) (h0l : 0 < l.length) (h1 : ∀ u ∈ flat l, u.oneCell' = true) (hx : ∀ s ∈ l, ∃ b : ByteArray, s.x = .string b) (G : SL → Prop) (hG : ∀ s ∈ l, s.full = true → G s) (n0 : Nat) (J Jx : List SL → World → Prop)
    (W : World) (hn0 : n0 ≤ W.heap.size) (hJa : AbidesFrom W.heap.size J)
    (hY : ∀ pre x W, G x → J pre W → pre.length < l.length → YieldAt F (n - 1) Try.prog lp #[.agg #[.int .i64 x.slot, .int .i64 x.gen], x.x] W fun e W' =>
      (e = .returned (.bool true) ∧ J (pre ++ [x]) W' ∧ KN 111 n0 W W') ∨ (e = .returned (.bool false) ∧ Jx (pre ++ [x]) W'))
    (hBs : W.cell? ⟨Bs, 0, none⟩ = some (.pointer (some ⟨ps, 0, none⟩))) (hS : SlabAt 111 W ps g l) (h0 : J [] W) :
    CallsIn F n Try.prog 48 #[.func (.yield lp) #[] #[], .pointer (some ⟨Bs, 0, none⟩)] W fun e W' => (∃ v, e = .returned v) ∧
      ((∃ ys, ys = l.filter (·.full) ∧ J ys W') ∨ (∃ pre, (∃ k, k ≤ l.length ∧ pre = (l.take k).filter (·.full)) ∧ Jx pre W')) := by
  obtain ⟨i0, hi, hz0, hz1, hz2⟩ := info_parts Try.infoE111
  have hp := hS.ptr
  have hnews : ∀ j u, (flat l)[j]? = some u → W.cell? ((⟨g, 0, none⟩ : Addr).add j) = some u := fun j u hu => by
    have e : (⟨g, 0, none⟩ : Addr).add j = ⟨g, j, none⟩ := by unfold Addr.add; split <;> simp_all
    rw [e, hS.cell]; exact hu
  generalize hlen : l.length = len at *
  refine callsIn_of_wp Try.func48 rfl hf ?_ hro
  simp only [Try.ntmps48, List.size_toArray, List.length_cons, List.length_nil, Nat.reduceAdd, Nat.reduceSub, Array.replicate_succ, Array.replicate_zero, List.push_toArray, List.append_toArray, List.nil_append, List.cons_append]
  gi_wp2_with (gi_at_builtin; refine wpListIn_append_own_at _ rfl _ _ 61 (by rfl) W.heap.size 111 i0 (.agg #[.int .i64 0, .int .i64 0, .bool false, .string .empty]) 4 40 Try.underlying61 hi hz0 hz1 hz2 rfl (by decide) (.slice none 0 0) 0 [] (by rfl) ⟨rfl, .inl ⟨rfl, rfl⟩⟩ ⟨g, 0, none⟩ len len (flat l) (by rfl) (by rw [flat_length, hlen]) hnews h1 (by unfold maxLen; omega) (by omega) (Nat.le_refl _) ?_; intro v' w1 hown hgrow hnil hloc; rw [Nat.zero_add, List.nil_append] at hown; obtain ⟨c, cap, rfl, hcb, hcl⟩ := hown.form h0l)
  have hgl := hS.gl
  have J1 : J [] w1 := hJa _ _ _ none h0 hgrow (fun r e => by cases e)
  gi_loopw [13] (fun v wr => ∃ k : Nat, k ≤ len ∧ v = .int .i64 k ∧ J ((l.take k).filter (·.full)) wr ∧ wr.ownsRow W.heap.size 111 4 (.slice (some ⟨c, 0, none⟩) len cap) len (flat l)) (fun v _ => len - (intOf v).toNat)
  case atStart => exact ⟨0, Nat.zero_le _, rfl, J1, hown⟩
  case round =>
    obtain ⟨k, hk, rfl, hJs, ho⟩ := hrel
    by_cases hlt : k < len
    · obtain ⟨s, hs⟩ : ∃ s, l[k]? = some s := ⟨_, List.getElem?_eq_getElem (by omega)⟩
      obtain ⟨e0, e1, e2, e3⟩ := flat_get l k s hs
      have hc := ho.cells (g := c) rfl
      have c0 := hc _ _ e0
      have c1 := hc _ _ e1
      have c2 := hc _ _ e2
      have c3 := hc _ _ e3
      rw [add_off] at c0 c1 c2 c3
      simp only [Nat.zero_add] at c0 c1 c2 c3
      have htk : (l.take (k + 1)).filter (·.full) = (l.take k).filter (·.full) ++ (if s.full then [s] else []) := by
        rw [List.take_add_one, hs, List.filter_append]
        cases hf : s.full <;> simp [hf]
      obtain ⟨xb, hxb⟩ := hx s (List.mem_of_getElem? hs)
      rw [hxb] at c3
      have hJn : ∀ o, J ((l.take k).filter (·.full)) (wr.alloc o) := fun o => hJa _ _ _ none hJs (World.grownBy_alloc wr o none) (fun r e => by cases e)
      cases hfs : s.full
      · rw [hfs] at c2 htk
        rw [if_neg (by decide), List.append_nil] at htk
        gi_wp2
        refine ⟨fun _ h => (by cases h), ?_⟩
        gi_wp2
        go_roundw
        case rel => exact ⟨k + 1, hlt, by go_num, by rw [htk]; exact hJn _, ho.alloc _⟩
        case measure => simp [intOf]; omega
      · rw [hfs] at c2 htk
        rw [if_pos rfl] at htk
        obtain ⟨fn, tmps, assign, body, hy, hR⟩ := hY _ s (wr.alloc (.cells #[.int .i64 s.slot, .int .i64 s.gen, .bool true, .string xb] 111)) (hG s (List.mem_of_getElem? hs) hfs) (hJn _) (Nat.lt_of_le_of_lt (List.length_filter_le _ _) (by rw [List.length_take]; omega))
        rw [hxb] at hy
        gi_wp2
        refine hR.mono ?_
        rintro e W3 (⟨rfl, hJ3, hk3⟩ | ⟨rfl, hJx3⟩)
        · gi_wp2
          go_roundw
          case rel => exact ⟨k + 1, hlt, by go_num, by rw [htk]; exact hJ3, own_kn (ho.alloc _) hk3 hn0⟩
          case measure => simp [intOf]; omega
        · gi_wp2
          refine bodyPost_ret (results_none rfl _ _ _) rfl ?_
          exact ⟨⟨_, rfl⟩, .inr ⟨_, ⟨k + 1, by omega, htk.symm⟩, hJx3⟩⟩
    · obtain rfl : k = len := by omega
      gi_wp2
      go_end0
      have e : l.take k = l := List.take_of_length_le (by omega)
      rw [e] at hJs
      exact ⟨⟨_, rfl⟩, .inl ⟨_, rfl, hJs⟩⟩

theorem allns_stops (F : Fence) (n : Nat) (hf : F.fn 48) (hro : F.round = none) (hn : 1 ≤ n) (Bs ps g : Nat) (l : List SL) (hm : l.length ≤ 4096) (h0l : 0 < l.length) (hx : ∀ s ∈ l, ∃ b : ByteArray, s.x = .string b) (G : SL → Prop) (hG : ∀ s ∈ l, s.full = true → G s) (w : World)
    (hB : Bs < w.heap.size) (hBs : w.cell? ⟨Bs, 0, none⟩ = some (.pointer (some ⟨ps, 0, none⟩))) (hS : SlabAt 111 w ps g l) :
    SeqStopsK F n Try.prog 48 #[.pointer (some ⟨Bs, 0, none⟩)] (fun x : {s : SL // G s} => #[.agg #[.int .i64 x.1.slot, .int .i64 x.1.gen], x.1.x]) (KN 111 w.heap.size) (fun ys => ys.map (·.1) = l.filter (·.full)) (fun pre => ∃ k, k ≤ l.length ∧ pre.map (·.1) = (l.take k).filter (·.full)) l.length w := by
  intro lp J Jx W hW hJ _ hY h0
  refine (allns_in F n hf hro hn lp Bs ps g l hm h0l (flat_ones hx) hx G hG w.heap.size (fun ys W => ∃ zs : List {s : SL // G s}, zs.map (·.1) = ys ∧ J zs W) (fun ys W => ∃ zs : List {s : SL // G s}, zs.map (·.1) = ys ∧ Jx zs W) W hW.size ?_ ?_ ((hW.cell (p := ⟨Bs, 0, none⟩) hB).trans hBs) (hS.below hW) ⟨[], rfl, h0⟩).mono ?_
  · rintro ys A B row ⟨zs, hz, hj⟩ hg hr
    exact ⟨zs, hz, hJ zs A B row hj hg hr⟩
  · rintro pre x W1 hgx ⟨zs, rfl, hj⟩ hlt
    refine (hY zs ⟨x, hgx⟩ W1 hj (by simpa using hlt)).mono ?_
    rintro e w1 (⟨he, hj', hk⟩ | ⟨he, hj'⟩)
    · exact .inl ⟨he, ⟨zs ++ [⟨x, hgx⟩], by simp, hj'⟩, hk⟩
    · exact .inr ⟨he, ⟨zs ++ [⟨x, hgx⟩], by simp, hj'⟩⟩
  · rintro e w1 ⟨hv, (⟨ys, hys, zs, hz, hj⟩ | ⟨pre, ⟨j, hj, hp⟩, zs, hz, hjx⟩)⟩
    · exact ⟨hv, .inl ⟨zs, hz.trans hys, hj⟩⟩
    · exact ⟨hv, .inr ⟨zs, ⟨j, hj, hz.trans hp⟩, hjx⟩⟩
end Go.Proofs.Ytpnegofmebfcgaa

