/- Slab: the closure of All of one instance. -/
import Derived.Test.YtpnegofmebfcgaaAs
import Derived.Maps.OwnIn
import Derived.OwnWalk
import Derived.Deep.AppendLies
namespace Go.Proofs.Ytpnegofmebfcgaa
open Go.RowKit Go.Shelf Go.Maps
attribute [local go_sem] Oper.semAt_some
set_option linter.unusedVariables false

theorem Try.infoE97 : (Try.prog.info? 97).map (fun i => (i.zero, i.size, i.bytes)) = some (some (.agg #[.int .i64 0, .int .i64 0, .bool false, .pointer none]), 4, 32) := by kernel_rfl

set_option maxRecDepth 100000 in
set_option maxHeartbeats 4000000 in
theorem allp_in (F : Fence) (n : Nat) (hf : F.fn 41) (hro : F.round = none) (hn : 1 ≤ n) (lp Bs ps g : Nat) (l : List SL) (hm : l.length ≤ 4096) (h0l : 0 < l.length) (h1 : ∀ u ∈ flat l, u.oneCell' = true) (hx : ∀ s ∈ l, ∃ b : Option Addr, s.x = .pointer b) (J Jx : List SL → World → Prop)
    (W : World) (hJa : AbidesFrom W.heap.size J)
    (hY : ∀ pre x W, J pre W → pre.length < l.length → YieldAt F (n - 1) Try.prog lp #[.agg #[.int .i64 x.slot, .int .i64 x.gen], x.x] W fun e W' =>
      (e = .returned (.bool true) ∧ J (pre ++ [x]) W' ∧ KT 97 g W W') ∨ (e = .returned (.bool false) ∧ Jx (pre ++ [x]) W'))
    (hBs : W.cell? ⟨Bs, 0, none⟩ = some (.pointer (some ⟨ps, 0, none⟩))) (hS : SlabAt 97 W ps g l) (h0 : J [] W) :
    CallsIn F n Try.prog 41 #[.func (.yield lp) #[] #[], .pointer (some ⟨Bs, 0, none⟩)] W fun e W' => (∃ v, e = .returned v) ∧
      ((∃ ys, ys = l.filter (·.full) ∧ J ys W') ∨ (∃ pre, (∃ k, k ≤ l.length ∧ pre = (l.take k).filter (·.full)) ∧ Jx pre W')) := by
  obtain ⟨i0, hi, hz0, hz1, hz2⟩ := info_parts Try.infoE97
  have hp := hS.ptr
  have hnews : ∀ j u, (flat l)[j]? = some u → W.cell? ((⟨g, 0, none⟩ : Addr).add j) = some u := fun j u hu => by
    have e : (⟨g, 0, none⟩ : Addr).add j = ⟨g, j, none⟩ := by unfold Addr.add; split <;> simp_all
    rw [e, hS.cell]; exact hu
  generalize hlen : l.length = len at *
  refine callsIn_of_wp Try.func41 rfl hf ?_ hro
  simp only [Try.ntmps41, List.size_toArray, List.length_cons, List.length_nil, Nat.reduceAdd, Nat.reduceSub, Array.replicate_succ, Array.replicate_zero, List.push_toArray, List.append_toArray, List.nil_append, List.cons_append]
  gi_wp2_with (gi_at_builtin; refine wpListIn_append_own_at _ rfl _ _ 92 (by rfl) W.heap.size 97 i0 (.agg #[.int .i64 0, .int .i64 0, .bool false, .pointer none]) 4 32 Try.underlying92 hi hz0 hz1 hz2 rfl (by decide) (.slice none 0 0) 0 [] (by rfl) ⟨rfl, .inl ⟨rfl, rfl⟩⟩ ⟨g, 0, none⟩ len len (flat l) (by rfl) (by rw [flat_length, hlen]) hnews h1 (by unfold maxLen; omega) (by omega) (Nat.le_refl _) ?_; intro v' w1 hown hgrow hnil hloc; rw [Nat.zero_add, List.nil_append] at hown; obtain ⟨c, cap, rfl, hcb, hcl⟩ := hown.form h0l)
  have hgl := hS.gl
  have J1 : J [] w1 := hJa _ _ _ none h0 hgrow (fun r e => by cases e)
  gi_loopw [13] (fun v wr => ∃ k : Nat, k ≤ len ∧ v = .int .i64 k ∧ J ((l.take k).filter (·.full)) wr ∧ wr.ownsRow W.heap.size 97 4 (.slice (some ⟨c, 0, none⟩) len cap) len (flat l)) (fun v _ => len - (intOf v).toNat)
  case atStart => exact ⟨0, Nat.zero_le _, rfl, J1, hown⟩
  case round =>
    obtain ⟨k, hk, rfl, hJs, ho⟩ := hrel
    by_cases hlt : k < len
    · obtain ⟨s, hs⟩ : ∃ s, l[k]? = some s := ⟨_, List.getElem?_eq_getElem (by omega)⟩
      obtain ⟨e0, e1, e2, e3⟩ := flat_get l k s hs
      have hc := ho.cells (g := c) rfl
      have c0 := hc _ _ e0
      have c1 := hc _ _ e1
      have c2 := hc _ _ e2
      have c3 := hc _ _ e3
      rw [add_off] at c0 c1 c2 c3
      simp only [Nat.zero_add] at c0 c1 c2 c3
      have htk : (l.take (k + 1)).filter (·.full) = (l.take k).filter (·.full) ++ (if s.full then [s] else []) := by
        rw [List.take_add_one, hs, List.filter_append]
        cases hf : s.full <;> simp [hf]
      obtain ⟨xb, hxb⟩ := hx s (List.mem_of_getElem? hs)
      rw [hxb] at c3
      have hJn : ∀ o, J ((l.take k).filter (·.full)) (wr.alloc o) := fun o => hJa _ _ _ none hJs (World.grownBy_alloc wr o none) (fun r e => by cases e)
      cases hfs : s.full
      · rw [hfs] at c2 htk
        rw [if_neg (by decide), List.append_nil] at htk
        gi_wp2
        refine ⟨fun _ h => (by cases h), ?_⟩
        gi_wp2
        go_roundw
        case rel => exact ⟨k + 1, hlt, by go_num, by rw [htk]; exact hJn _, ho.alloc _⟩
        case measure => simp [intOf]; omega
      · rw [hfs] at c2 htk
        rw [if_pos rfl] at htk
        obtain ⟨fn, tmps, assign, body, hy, hR⟩ := hY _ s (wr.alloc (.cells #[.int .i64 s.slot, .int .i64 s.gen, .bool true, .pointer xb] 97)) (hJn _) (Nat.lt_of_le_of_lt (List.length_filter_le _ _) (by rw [List.length_take]; omega))
        rw [hxb] at hy
        gi_wp2
        refine hR.mono ?_
        rintro e W3 (⟨rfl, hJ3, hk3⟩ | ⟨rfl, hJx3⟩)
        · gi_wp2
          go_roundw
          case rel => exact ⟨k + 1, hlt, by go_num, by rw [htk]; exact hJ3, own_kt (ho.alloc _) hk3 hgl⟩
          case measure => simp [intOf]; omega
        · gi_wp2
          refine bodyPost_ret (results_none rfl _ _ _) rfl ?_
          exact ⟨⟨_, rfl⟩, .inr ⟨_, ⟨k + 1, by omega, htk.symm⟩, hJx3⟩⟩
    · obtain rfl : k = len := by omega
      gi_wp2
      go_end0
      have e : l.take k = l := List.take_of_length_le (by omega)
      rw [e] at hJs
      exact ⟨⟨_, rfl⟩, .inl ⟨_, rfl, hJs⟩⟩
end Go.Proofs.Ytpnegofmebfcgaa
