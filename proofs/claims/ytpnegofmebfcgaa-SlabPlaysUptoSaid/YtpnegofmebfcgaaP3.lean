/- Slab: the law's AsIs, walked. -/
import Derived.Test.YtpnegofmebfcgaaLv
import Derived.Test.YtpnegofmebfcgaaO2
import Derived.Test.YtpnegofmebfcgaaP2
import Derived.Test.YtpnegofmebfcgaaUA
import Derived.Test.YtpnegofmebfcgaaUB
import Derived.OwnWalk
import Derived.Deep.AppendLies
import Derived.Lib.MinMax
import Derived.Lib.Builder
import Derived.Deep.RegionWith
import Derived.LaidEqlPtr
import Derived.Deep.DeepCutAuto
import Derived.Deep.CutBlock
import Derived.Deep.CutRange
namespace Go.Proofs.Ytpnegofmebfcgaa
open Go.RowKit Go.Shelf
attribute [local go_sem] BW.cell BW.frozen Oper.semAt_some
set_option linter.unusedVariables false
set_option linter.unusedSimpArgs false

theorem grown_belowB {w w' : World} {B : Nat} {row : Option Nat} (h : w.grownBy w' row) (hr : ∀ g, row = some g → B ≤ g) (hB : B ≤ w.heap.size) : Below B w w' :=
  ⟨h.os, h.tape, h.output, h.size, fun k hk => h.block k (by omega) (fun e => by have := hr k e.symm; omega)⟩
theorem Try.info32 : (Try.prog.info? 32).map (fun i => (i.zero, i.size, i.bytes)) = some (some (.agg #[.int .i64 0, .int .i64 0]), 2, 16) := by kernel_rfl
theorem Try.info4 : (Try.prog.info? 4).map (fun i => (i.zero, i.size, i.bytes)) = some (some (.bool false), 1, 1) := by kernel_rfl
theorem Try.info3 : (Try.prog.info? 3).map (fun i => (i.zero, i.size, i.bytes)) = some (some (.int .i64 0), 1, 8) := by kernel_rfl
theorem new_a (n0 : Nat) (w : World) (h : w.heap.size = n0 + 2) : Calls Try.prog 8 #[.int .i64 4096] w fun e w' => e = .returned (.tuple #[.pointer (some ⟨n0 + 3, 0, none⟩), .int .i64 0]) ∧ Below (n0 + 2) w w' ∧ SlabAt 97 w' (n0 + 3) (n0 + 2) (aslots 0 []) := by
  have := newp_ok 4096 w (by decide) (by decide)
  rw [h] at this
  rw [a_start]
  exact this
theorem slice_to (A : Option Addr) (n c m : Nat) (hm : m ≤ n) (hc : n ≤ c) (hA : A = none → c = 0) (w : World) : (Instr.slice 22 (.slice A n c) none (some (.int .i64 (m : Int))) none).run Try.prog w = .ok (.slice A m c) w := by
  cases A with
  | none =>
    have : c = 0 := hA rfl
    subst this
    obtain rfl : n = 0 := by omega
    obtain rfl : m = 0 := by omega
    simp [go_sem]
  | some a =>
    have : ¬ c < m := by omega
    simp [go_sem, this]
/-- An append whose run is known. -/
theorem wpList_append_run {P : Program} {w : World} {ops : Array Oper} {rest : List Oper} {o : Oper} {a : Act} {Q : Exit → Act → World → Prop} (hgd : o.guard = none) (s x : Operand) (t : TypeId)
    (ho : o.op = .call { callee := .builtin .append, args := #[s, x], argTypes := #[t, t] }) (u v r : Value) (hs : a.eval s = u) (hx : a.eval x = v)
    (hrun : (Builtin.append_ #[t, t] o.type #[u, v]).run P w = .ok r w) (h : wpList P ops Q rest (a.put o.dst r) w) : wpList P ops Q (o :: rest) a w :=
  wpList_plain hgd fun _ hK => by
    unfold Oper.wp execOp
    simp only [ho, resolve, invoke, builtin, Sem.run_bind, Sem.run_pure, Result.andThen_ok, List.map_toArray, List.map_cons, List.map_nil, hs, hx, hrun]
    exact hK _ _ h
theorem append_zero (b : Nat) (A : Option Addr) (c : Nat) (w : World) : (Builtin.append_ #[22, 22] 22 #[.slice (some ⟨b, 0, none⟩) 0 0, .slice A 0 c]).run Try.prog w = .ok (.slice (some ⟨b, 0, none⟩) 0 0) w := by
  obtain ⟨i0, hi, hz0, hz1, hz2⟩ := info_parts Try.info3
  cases A <;> simp [Builtin.append_, run_underlying Try.underlying22, sizeOf, typeInfo, hi, Builtin.lenOf, Builtin.firstCells, loadCells, loadCellsFrom, storeCells]
def ints (k : Int) : List Value := [.int .i64 k]
theorem wpList_copy {w : World} {ops : Array Oper} {rest : List Oper} {o : Oper} {a : Act} {Q : Exit → Act → World → Prop} (hgd : o.guard = none) (s x : Operand)
    (ho : o.op = .call { callee := .builtin .append, args := #[s, x], argTypes := #[22, 22] }) (hty : o.type = 22) (b m c : Nat) (A : Option Addr) (hs : a.eval s = .slice (some ⟨b, 0, none⟩) 0 0) (hx : a.eval x = .slice A m c)
    (hown : w.ownsRow b 3 1 (.slice (some ⟨b, 0, none⟩) 0 0) 0 []) (hbw : b ≤ w.heap.size) (hm : m ≤ 4096) (xs : List Int) (hr : Rd ints 1 w w.heap.size A m xs)
    (h : ∀ gN cap w', Below b w w' → b ≤ gN → gN < w'.heap.size → wpList Try.prog ops Q rest (a.put o.dst (.slice (some ⟨gN, 0, none⟩) m cap)) w') : wpList Try.prog ops Q (o :: rest) a w := by
  obtain ⟨i0, hi0, hz0, hz1, hz2⟩ := info_parts Try.info3
  have hbl : b < w.heap.size := (hown.lt b rfl).2
  rcases Nat.eq_zero_or_pos m with h0 | h0
  · subst h0
    refine wpList_append_run hgd s x 22 ho _ _ _ hs hx (by rw [hty]; exact append_zero b A c w) ?_
    exact h b 0 w (Below.refl _ _) (Nat.le_refl _) hbl
  · obtain ⟨bb, off, rfl, hb, hat⟩ := hr.at_ h0
    refine wpList_append_lies w hgd s x 22 ho b 3 i0 (.int .i64 0) 1 8 Try.underlying22 hi0 hz0 hz1 hz2 rfl (by decide) _ 0 [] hs hown ⟨bb, off, none⟩ m c (xs.map fun k => Value.int .i64 k) hx (by rw [List.length_map, hr.len, Nat.mul_one]) (fun j u hu => ?_) (fun u hu => by obtain ⟨k, _, rfl⟩ := List.mem_map.1 hu; rfl) h0 (by unfold maxLen; omega) (by omega) hbw _ rfl ?_
    · rw [List.getElem?_map] at hu
      cases hj : xs[j]? with
      | none => rw [hj] at hu; cases hu
      | some k =>
        rw [hj] at hu; cases hu
        have := hat j k hj 0 _ rfl
        rw [add_off]
        simpa using this
    · intro gN cap w' hown' hg hat' hlt
      rw [Nat.zero_add] at hown' ⊢
      exact h gN cap w' (grown_belowB hg (fun k hk => by
        have : b = k := by simpa [Value.ownBlock] using hk
        omega) hbw) (hown'.lt gN rfl).1 hlt

section
variable {n0 B c7 c8 gN m c k : Nat} {w w' : World} {x7 x8 v7 v8 : Value} {l : List SL} {told : List (Int × Int)} {gone : List Bool}
theorem AM.r7k (h : AM n0 B c7 c8 gN m c w x7 x8 v7 v8 l (ahandles k) gone) : w.ownsRow B 32 2 v7 k (hcells (ahandles k)) := by
  have := h.M.r7; rwa [h_len] at this
theorem AM.r8k (h : AM n0 B c7 c8 gN m c w x7 x8 v7 v8 l told gone) (hk : gone.length = k) : w.ownsRow B 4 1 v8 k (gone.map Value.bool) := by
  have := h.M.r8; rwa [hk] at this
theorem AM.app7k (h : AM n0 B c7 c8 gN m c w x7 x8 v7 v8 l (ahandles k) gone) {j cc : Nat} (ho : w'.ownsRow B 32 2 (.slice (some ⟨j, 0, none⟩) (k + 1) cc) (k + 1) (hcells (ahandles k) ++ [.int .i64 (k : Int), .int .i64 1]))
    (hg : w.grownBy w' v7.ownBlock) (hj : v7.ownBlock = some j ∨ j = w.heap.size) : AM n0 B c7 c8 gN m c w' x7 x8 (.slice (some ⟨j, 0, none⟩) (k + 1) cc) v8 l (ahandles (k + 1)) gone := by
  have hh := h.app7 (k := j) (cc := cc) (a := k) (b := 1) (by rw [h_len]; exact ho) hg hj
  rw [h_next, h_len] at hh
  exact hh
theorem AM.app8k (h : AM n0 B c7 c8 gN m c w x7 x8 v7 v8 l told (List.replicate k false)) {j cc : Nat} (ho : w'.ownsRow B 4 1 (.slice (some ⟨j, 0, none⟩) (k + 1) cc) (k + 1) ((List.replicate k false).map Value.bool ++ [.bool false]))
    (hg : w.grownBy w' v8.ownBlock) (hj : v8.ownBlock = some j ∨ j = w.heap.size) : AM n0 B c7 c8 gN m c w' x7 x8 v7 (.slice (some ⟨j, 0, none⟩) (k + 1) cc) l told (List.replicate (k + 1) false) := by
  have hh := h.app8 (k := j) (cc := cc) (b := false) (by rw [List.length_replicate]; exact ho) hg hj
  rw [List.length_replicate] at hh
  rw [List.replicate_succ']
  exact hh
theorem ptr_same : ∀ (w : World) (a : Addr), (binOp BinOp.neq 27 (.pointer (some a)) (.pointer (some a))).run Try.prog w = .ok (.bool false) w := by
  intro w a
  obtain ⟨i0, hi, hz0, hz1, hz2⟩ := info_parts Try.info3
  exact Lib.run_neq_ptr_same w a Try.underlying27 hi
theorem nil_neq_nil : ∀ (w : World), (binOp BinOp.neq 27 (.pointer none) (.pointer none)).run Try.prog w = .ok (.bool false) w := fun w => by kernel_rfl
theorem fnil_p : ∀ (w : World) (a : Addr), (binOp BinOp.eql 39 (.func (.func 41) #[] #[.pointer (some a)]) .nilFunc).run Try.prog w = .ok (.bool false) w := fun _ _ => by kernel_rfl
theorem allof_p (p : Option Addr) (w : World) : Calls Try.prog 14 #[.pointer p] w fun e w' => e = .returned (.func (.func 41) #[] #[.pointer (some ⟨w.heap.size, 0, none⟩)]) ∧ w' = w.alloc (.cells #[.pointer p] 23) :=
  (callsIn_wide (n := 3)).1 (allof_in_p Fence.wide 3 trivial rfl p w)
theorem ptr_eql : ∀ (w : World) (a : Addr), (binOp BinOp.eql 27 (.pointer (some a)) (.pointer (some a))).run Try.prog w = .ok (.bool true) w := by
  intro w a
  obtain ⟨i0, hi, hz0, hz1, hz2⟩ := info_parts Try.info3
  exact run_eql_ptr_same w a Try.underlying27 hi
theorem Mem.c7' {T : TypeId} {B ps g : Nat} {w : World} {v8 : Value} {l : List SL} {here : List Bool} {k m c : Nat} {told : List (Int × Int)} (h : Mem T B ps g w (.slice (some ⟨k, 0, none⟩) m c) v8 l told here) {i : Nat} {p : Int × Int} (hp : told[i]? = some p) : w.cell? ⟨k, i * 2, none⟩ = some (.int .i64 p.1) ∧ w.cell? ⟨k, i * 2 + 1, none⟩ = some (.int .i64 p.2) := by
  obtain ⟨k', c', e, h1, h2, _⟩ := h.at7 hp
  injection e with e _ _
  injection e with e
  injection e with e
  subst e
  exact ⟨h1, h2⟩
theorem own_far {w : World} {B : Nat} {E : TypeId} {size n : Nat} {v : Value} {xs : List Value} (h : w.ownsRow B E size v n xs) {b : Nat} {u0 : Value} {t : TypeId} (hb : Boxed w b t u0) (hne : E ≠ t) (u : Value) : (w.setCell ⟨b, 0, none⟩ u).ownsRow B E size v n xs := by
  refine h.kept (grownBy_set w b 0 u) ?_
  rcases h.2 with ⟨rfl, _⟩ | ⟨k, cap, cur, rfl, _, hk, _⟩
  · exact .inl rfl
  · refine .inr fun e => ?_
    have e' : k = b := by simpa [Value.ownBlock] using e
    subst e'
    rw [show w.heap[k]? = _ from hb] at hk; cases hk
    exact hne rfl
theorem AM.farb {n0 B c7 c8 gN m c : Nat} {w : World} {x7 x8 v7 v8 : Value} {l : List SL} {told : List (Int × Int)} {gone : List Bool} (h : AM n0 B c7 c8 gN m c w x7 x8 v7 v8 l told gone) {b : Nat} {u0 : Value} (hB : B ≤ b) (hb : Boxed w b 3 u0) (u : Value) : AM n0 B c7 c8 gN m c (w.setCell ⟨b, 0, none⟩ u) x7 x8 v7 v8 l told gone := by
  obtain ⟨o1, o2, o3⟩ := h.ord
  exact ⟨⟨h.M.slab.far (by omega) (by omega) _ _, own_far h.M.r7 hb (by decide) u, own_far h.M.r8 hb (by decide) u, h.M.ne, h.M.low.1, h.M.low.2.1, by simpa using h.M.low.2.2⟩, h.bN.other (by omega) _, h.bR.other (by omega) _, h.b7.other (by omega) _, h.b8.other (by omega) _, h.ord⟩
theorem slab_heap {T : TypeId} {w w' : World} {ps g : Nat} {l : List SL} (h : SlabAt T w ps g l) (e : w'.heap = w.heap) : SlabAt T w' ps g l :=
  ⟨by have := h.ptr; simpa [World.cell?, e] using this, by rw [e]; exact h.blk, h.ne⟩
theorem wp_normal {P : Program} {c : Code} {Q : Exit → Act → World → Prop} {a : Act} {w : World} (h : c.wp P (fun e a w => match e with
    | .normal => Q .normal a w
    | _ => False) a w) : c.wp P Q a w := by
  refine (wpIn_wide (n := 0)).1 (wpIn_mono ((wpIn_wide (n := 0)).2 h) fun e a w h => ?_)
  cases e <;> first | exact h | exact h.elim
theorem lit_behind (c7 : Nat) (W : World) (v : Value) : ((W.setCell ⟨c7, 0, none⟩ v).alloc (.cells #[.bool false] 4)).heap[W.heap.size]? = some (.cells #[.bool false] 4 (0, 0)) := by
  have := heap_alloc_new (W.setCell ⟨c7, 0, none⟩ v) (.cells #[.bool false] 4)
  simpa using this
theorem put_k {ps g : Nat} (hS : SlabAt 97 w ps g (aslots gN (List.replicate k false))) (hk : k < 4096) :
    Calls Try.prog 10 #[.pointer (some ⟨ps, 0, none⟩), .pointer (some ⟨gN, k, none⟩)] w (Turns 97 ps g (.tuple #[.agg #[.int .i64 (k : Int), .int .i64 1], .int .i64 0]) (aslots gN (List.replicate (k + 1) false)) w) := by
  have := put_a hS (by rw [List.length_replicate]; exact hk) (fun j b hb => by rw [List.getElem?_replicate] at hb; split at hb <;> cases hb; rfl)
  rw [List.length_replicate, ← List.replicate_succ'] at this
  exact this
end
set_option maxRecDepth 50000 in
set_option maxHeartbeats 16000000 in
theorem asis_core (A1 : Option Addr) (n1 c1 : Nat) (A2 : Option Addr) (n2 c2 : Nat) (ns ds : List Int) (w : World) (h1 : Rd ints 1 w w.heap.size A1 n1 ns) (h2 : Rd ints 1 w w.heap.size A2 n2 ds) (hn1 : n1 ≤ 9223372036854775807) (hn2 : n2 ≤ 9223372036854775807) (hc1 : n1 ≤ c1) (hA1 : A1 = none → c1 = 0) :
    Calls Try.prog 3 #[.slice A1 n1 c1, .slice A2 n2 c2] w (Gives (.bool true) w) := by
  have H1 := Lib.hid h1
  have H2 := Lib.hid h2
  clear h1 h2
  obtain ⟨i0, hi0, hz0, hz1, hz2⟩ := info_parts Try.info3
  refine (callsIn_wide (n := 3)).1 ?_
  refine callsIn_of_wp_marks Try.func3 rfl trivial ?_ rfl
  simp only [Try.ntmps3, List.size_toArray, List.length_cons, List.length_nil, Nat.reduceAdd, Nat.reduceSub, Array.replicate_succ, Array.replicate_zero, List.push_toArray, List.append_toArray, List.nil_append, List.cons_append]
  refine wpIn_wide.2 ?_
  go_wp2_with fail
  refine (new_a w.heap.size _ (by simp)).mono ?_
  rintro e W0 ⟨rfl, b0, hS0⟩
  have bN0 : Boxed W0 w.heap.size 22 (.slice A1 n1 c1) := ((b0.block w.heap.size (by omega)).trans (Below.heap_alloc _ _ _ (by simp))).trans (heap_alloc_new w _)
  have bR0 : Boxed W0 (w.heap.size + 1) 4 (.bool false) := by
    have := heap_alloc_new (w.alloc (.cells #[.slice A1 n1 c1] 22)) (.cells #[.bool false] 4)
    rw [World.size_alloc] at this
    exact (b0.block (w.heap.size + 1) (by omega)).trans this
  have bW0 : Below w.heap.size w W0 := (((Below.refl _ w).alloc (Nat.le_refl _) _).alloc (by simp) _).trans (b0.mono (by omega))
  clear b0
  go_wp2_with fail
  refine (lives_ok _).mono ?_
  rintro e W' ⟨rfl, z, rfl⟩
  have hS1 := hS0.below z.h
  have bN1 : Boxed z.i w.heap.size 22 (.slice A1 n1 c1) := (z.h.block _ bN0.lt).trans bN0
  have bR1 : Boxed z.i (w.heap.size + 1) 4 (.bool false) := (z.h.block _ bR0.lt).trans bR0
  have bW1 := bW0.trans (z.h.mono bW0.size)
  generalize z.i = W1 at *
  clear z hS0 bN0 bR0 bW0 W0
  have cN1 := bN1.cell
  have fN1 := bN1.frozen
  have ltN1 := bN1.lt
  have szW1 := hS1.pl
  obtain ⟨m, hmin, hm1, hm2⟩ : ∃ m : Nat, min (n1 : Int) 4096 = m ∧ m ≤ n1 ∧ m ≤ 4096 := ⟨min n1 4096, by omega, by omega, by omega⟩
  have hsl := slice_to A1 n1 c1 m hm1 hc1 hA1
  have hrd : Rd ints 1 (W1.alloc (.cells #[] 3)) (W1.alloc (.cells #[] 3)).heap.size A1 m (ns.take m) := by
    have hH := H1.out.below (bW1.alloc bW1.size (.cells #[] 3))
    have hsz := bW1.size
    refine ⟨by rw [List.length_take, hH.len]; omega, fun h0 => ?_⟩
    obtain ⟨b, off, e, hb, hat⟩ := hH.at_ (by omega)
    refine ⟨b, off, e, by simp; omega, fun i x hx j v hv => hat i x ?_ j v hv⟩
    rw [List.getElem?_take] at hx
    split at hx
    · exact hx
    · cases hx
  have HRD := Lib.hid hrd
  have HSL := hsl
  clear hrd hsl
  have hown0 := World.ownsRow_lit (base := W1.heap.size) (e := 3) (size := 1) W1 #[] 0 (Nat.le_refl _) (by decide) rfl
  have HO := Lib.hid hown0
  clear hown0
  go_wp2_with (at_builtin; refine wpList_copy rfl _ _ (by rfl) rfl W1.heap.size m c1 A1 (by rfl) (by rfl) HO.out (by simp) hm2 (ns.take m) HRD.out ?_; intro gN cap W2 b2 hgN hgN2; have bN2 : Boxed W2 w.heap.size 22 (.slice A1 n1 c1) := (b2.block w.heap.size ltN1).trans (bN1.alloc _); have cN2 := bN2.cell; have fN2 := bN2.frozen)
  have hsz2 := b2.size
  have bR2 : Boxed W2 (w.heap.size + 1) 4 (.bool false) := (b2.block _ bR1.lt).trans (bR1.alloc _)
  have hS2 : SlabAt 97 W2 (w.heap.size + 3) (w.heap.size + 2) (aslots gN []) := by
    have h := hS1.alloc (.cells #[] 3)
    rw [(a_start 0).trans (a_start gN).symm] at h
    exact ⟨(b2.cell (p := ⟨w.heap.size + 3, 0, none⟩) hS1.pl).trans h.ptr, (b2.block _ hS1.gl).trans h.blk, h.ne⟩
  have sz21 : W1.heap.size + 1 ≤ W2.heap.size := by have := b2.size; simpa using this
  have A4 : AM w.heap.size (W2.heap.size + 2) W2.heap.size (W2.heap.size + 1) gN m cap (((W2.setCell ⟨w.heap.size, 0, none⟩ (.slice (some ⟨gN, 0, none⟩) m cap)).alloc (.cells #[.slice none 0 0] 29)).alloc (.cells #[.slice none 0 0] 30)) (.slice none 0 0) (.slice none 0 0) (.slice none 0 0) (.slice none 0 0) (aslots gN []) (ahandles 0) [] := by
    refine ⟨⟨((hS2.far (by omega) (by omega) _ _).alloc _).alloc _, World.ownsRow_nil _ _ _ _, World.ownsRow_nil _ _ _ _, .inl rfl, by omega, by omega, by simp⟩, ?_, ?_, ?_, ?_, by omega⟩
    · exact ((bN2.set _).alloc _).alloc _
    · exact ((bR2.other (by omega) _).alloc _).alloc _
    · have := (Boxed.new (W2.setCell ⟨w.heap.size, 0, none⟩ (.slice (some ⟨gN, 0, none⟩) m cap)) 29 (.slice none 0 0)).alloc (.cells #[.slice none 0 0] 30)
      simpa using this
    · have := Boxed.new ((W2.setCell ⟨w.heap.size, 0, none⟩ (.slice (some ⟨gN, 0, none⟩) m cap)).alloc (.cells #[.slice none 0 0] 29)) 30 (.slice none 0 0)
      simpa using this
  have bW4 : Below w.heap.size w (((W2.setCell ⟨w.heap.size, 0, none⟩ (.slice (some ⟨gN, 0, none⟩) m cap)).alloc (.cells #[.slice none 0 0] 29)).alloc (.cells #[.slice none 0 0] 30)) := ((((bW1.alloc bW1.size _).trans (b2.mono bW1.size)).setCell (p := ⟨w.heap.size, 0, none⟩) (Nat.le_refl _) _).alloc (by simp; omega) _).alloc (by simp; omega) _
  have hord : w.heap.size + 4 ≤ W2.heap.size := by omega
  generalize (((W2.setCell ⟨w.heap.size, 0, none⟩ (.slice (some ⟨gN, 0, none⟩) m cap)).alloc (.cells #[.slice none 0 0] 29)).alloc (.cells #[.slice none 0 0] 30)) = W4 at *
  obtain ⟨BB, hBB⟩ : ∃ BB, BB = W2.heap.size + 2 := ⟨_, rfl⟩
  rw [← hBB] at A4
  generalize W2.heap.size = c7 at *
  clear b2 bN2 cN2 fN2 bR2 hS2 hgN hgN2 hsz2 sz21 bN1 bR1 hS1 bW1 cN1 fN1 ltN1 szW1 HSL HRD HO hmin W2
  obtain ⟨i2, hi2, iz0, iz1, iz2⟩ := info_parts Try.info32
  obtain ⟨j2, hj2, jz0, jz1, jz2⟩ := info_parts Try.info4
  have hgb : w.heap.size ≤ w.heap.size + 2 := by omega
  go_loopw [9] (fun v wr => ∃ k : Nat, k ≤ m ∧ v = .int .i64 k ∧ (∃ v7 v8, AM w.heap.size BB c7 (c7 + 1) gN m cap wr v7 v8 v7 v8 (aslots gN (List.replicate k false)) (ahandles k) (List.replicate k false)) ∧ Below w.heap.size w wr) (fun v _ => m - (intOf v).toNat)
  case atStart => exact ⟨0, Nat.zero_le _, rfl, ⟨_, _, A4⟩, bW4⟩
  case round =>
    obtain ⟨k, hk, rfl, ⟨v7, v8, A⟩, hb⟩ := hrel
    clear A4 bW4
    have cN := A.bN.cell
    have cc7 := A.b7.cell
    have cc8 := A.b8.cell
    have lN := A.bN.lt
    have l7 := A.b7.lt
    have l8 := A.b8.lt
    by_cases hlt : k < m
    · go_wp2_with fail
      refine (put_k A.M.slab (by omega)).mono ?_
      rintro e W5 ⟨rfl, hg5, hS5⟩
      have A2 := A.turn hg5 hS5
      have b5 := hb.trans (grown_below' hg5 hgb hb.size)
      have A3 := A2.alloc (.cells #[.int .i64 (k : Int), .int .i64 1] 32)
      have b6 := b5.alloc b5.size (.cells #[.int .i64 (k : Int), .int .i64 1] 32)
      clear A A2 cN cc7 cc8 lN l7 l8 hb
      have cN := A3.bN.cell
      have cc7 := A3.b7.cell
      have cc8 := A3.b8.cell
      have lN := A3.bN.lt
      have l7 := A3.b7.lt
      have l8 := A3.b8.lt
      have hlit : ((W5.alloc (.cells #[.int .i64 (k : Int), .int .i64 1] 32)).alloc (.cells #[.int .i64 (k : Int), .int .i64 1] 32)).heap[W5.heap.size + 1]? = some (.cells #[.int .i64 (k : Int), .int .i64 1] 32 (0, 0)) := by
        have := heap_alloc_new (W5.alloc (.cells #[.int .i64 (k : Int), .int .i64 1] 32)) (.cells #[.int .i64 (k : Int), .int .i64 1] 32)
        rwa [World.size_alloc] at this
      have hlit8 := lit_behind c7
      go_wp2_with (first | (at_builtin; refine wpList_append_lies _ rfl _ _ 29 (by rfl) BB 32 i2 (.agg #[.int .i64 0, .int .i64 0]) 2 16 Try.underlying29 hi2 iz0 iz1 iz2 rfl (by decide) _ k (hcells (ahandles k)) (by rfl) (A3.alloc _).r7k ⟨W5.heap.size + 1, 0, none⟩ 1 1 [.int .i64 (k : Int), .int .i64 1] (by rfl) rfl (World.news_of_block hlit) (by intro u hu; simp at hu; rcases hu with rfl | rfl <;> rfl) (by decide) (by unfold maxLen; omega) (by omega) (A3.alloc _).M.low.2.2 (W5.heap.size + 1 + 1) (by simp) ?_; intro k7 cc7' W7 own7 grow7 at7 lt7; have A7 := (A3.alloc _).app7k own7 grow7 (at7.imp id (fun e => by rw [e]; simp)); have cc77 := A7.b7.cell; have ff77 := A7.b7.frozen; have cc87 := A7.b8.cell; have ff87 := A7.b8.frozen; have ll7 := A7.b7.lt; have ll8 := A7.b8.lt) | (at_builtin; refine wpList_append_lies _ rfl _ _ 30 (by rfl) BB 4 j2 (.bool false) 1 1 Try.underlying30 hj2 jz0 jz1 jz2 rfl (by decide) _ k ((List.replicate k false).map Value.bool) (by rfl) (((A7.set7 _).alloc _).r8k List.length_replicate) ⟨W7.heap.size, 0, none⟩ 1 1 [.bool false] (by rfl) rfl (World.news_of_block (hlit8 W7 _)) (by intro u hu; simp at hu; subst hu; rfl) (by decide) (by unfold maxLen; omega) (by omega) ((A7.set7 _).alloc _).M.low.2.2 (W7.heap.size + 1) (by simp) ?_; intro k8 cc8' W8 own8 grow8 at8 lt8; have A9 := ((A7.set7 _).alloc _).app8k own8 grow8 (at8.imp id (fun e => by rw [e]; simp)); have cc88 := A9.b8.cell; have ff88 := A9.b8.frozen))
      have A10 := A9.set8 (.slice (some ⟨k8, 0, none⟩) (k + 1) cc8')
      have b7 := (b6.alloc b6.size (.cells #[.int .i64 (k : Int), .int .i64 1] 32)).trans (grown_belowB grow7 (fun j hj => by have := ((A3.alloc (.cells #[.int .i64 (k : Int), .int .i64 1] 32)).M.r7.lt j hj).1; have := A3.ord; omega) (by simp; have := b6.size; simp at this; omega))
      have b8 := ((b7.setCell (p := ⟨c7, 0, none⟩) (by show w.heap.size ≤ c7; omega) (.slice (some ⟨k7, 0, none⟩) (k + 1) cc7')).alloc (by simpa using b7.size) (.cells #[.bool false] 4)).trans (grown_belowB grow8 (fun j hj => by have := (((A7.set7 (.slice (some ⟨k7, 0, none⟩) (k + 1) cc7')).alloc (.cells #[.bool false] 4)).M.r8.lt j hj).1; have := A3.ord; omega) (by simp; have := b7.size; omega))
      have b9 := b8.setCell (p := ⟨c7 + 1, 0, none⟩) (by show w.heap.size ≤ c7 + 1; omega) (.slice (some ⟨k8, 0, none⟩) (k + 1) cc8')
      go_roundw
      case rel => exact ⟨k + 1, by omega, by go_num, ⟨_, _, A10⟩, b9⟩
      case measure => simp [intOf]; omega
    · obtain rfl : k = m := by omega
      obtain ⟨A7, c7v, e7, _⟩ := A.M.len7
      rw [h_len] at e7
      subst e7
      clear hi2 iz0 iz1 iz2 hj2 jz0 jz1 jz2 hi0 hz0 hz1 hz2
      go_upto_block 2 with fail
      go_cut [12, 13, 14, 15] from 69 to 122 (fun _ _ _ _ wx => ∃ gone : List Bool, gone.length = k ∧ AM w.heap.size BB c7 (c7 + 1) gN k cap wx (.slice A7 k c7v) v8 (.slice A7 k c7v) v8 (aslots gN gone) (ahandles k) gone ∧ Below w.heap.size w wx)
      case first =>
        go_wp2_with fail
        go_loopw [12] (fun v wr => ∃ (j : Nat) (gone : List Bool), j ≤ n2 ∧ v = .int .i64 j ∧ gone.length = k ∧ AM w.heap.size BB c7 (c7 + 1) gN k cap wr (.slice A7 k c7v) v8 (.slice A7 k c7v) v8 (aslots gN gone) (ahandles k) gone ∧ Below w.heap.size w wr) (fun v _ => n2 - (intOf v).toNat)
        case atStart => exact ⟨0, List.replicate k false, Nat.zero_le _, rfl, List.length_replicate, A, hb⟩
        case round =>
          clear A hb cN cc7 cc8 lN l7 l8
          obtain ⟨j, gone, hj, rfl, hgl, A, hb⟩ := hrel
          have cN := A.bN.cell
          have cc7 := A.b7.cell
          have cc8 := A.b8.cell
          have lN := A.bN.lt
          have l7 := A.b7.lt
          have l8 := A.b8.lt
          by_cases hlt : j < n2
          · have t1 : decide ((j : Int) < (n2 : Int)) = true := decide_eq_true (by omega)
            by_cases hm0 : 0 < k
            · have t2 : decide (0 < (k : Int)) = true := decide_eq_true (by omega)
              obtain ⟨b, off, rfl, hbl, hat⟩ := H2.out.at_ (by omega)
              obtain ⟨d, hd⟩ : ∃ d, ds[j]? = some d := ⟨_, List.getElem?_eq_getElem (by rw [H2.out.len]; exact hlt)⟩
              have cd := (hb.cell (p := ⟨b, off + j * 1 + 0, none⟩) hbl).trans (hat j d hd 0 _ rfl)
              rw [Nat.mul_one, Nat.add_zero] at cd
              clear hat
              have hk3 := rnd_in d k (by omega)
              have K3 := round_ok d k
              obtain ⟨q, hq⟩ : ∃ q : Nat, rnd d k = q := ⟨(rnd d k).toNat, by omega⟩
              rw [hq] at hk3 K3
              clear hq
              have K3 := Lib.hid K3
              have hql : q < k := by omega
              have hblw : b < wr.heap.size := Nat.lt_of_lt_of_le hbl hb.size
              go_wp2_with fail
              refine wp_region_bw wr.heap.size wr (Below.refl _ _) (by kernel_rfl) (by kernel_rfl) ?_
              repeat (go_big_quiet_step ((go_at_call 11; exact Calls.bw_same (K3.out _ (by omega) (by omega)))))
              refine wpQuiet_nil ?_
              intro x
              have A3 := A.below x.h
              have b3 := hb.trans (x.h.mono hb.size)
              generalize x.i = W3 at *
              clear A hb cd cN cc7 cc8 lN l7 l8 K3 hblw x
              obtain ⟨bb, hbb⟩ : ∃ bb, gone[q]? = some bb := ⟨_, List.getElem?_eq_getElem (by omega)⟩
              have hqg : q < gone.length := by omega
              obtain ⟨k7, c7', e7, a0, a1, lt7, _⟩ := A3.M.at7 (h_at hql)
              injection e7 with e7 e7m e7'; clear e7m
              subst e7 e7'
              obtain ⟨k8, c8', e8, a2, f2, lt8, _⟩ := A3.M.at8 hbb
              subst e8
              have cN := A3.bN.cell
              have cc7 := A3.b7.cell
              have cc8 := A3.b8.cell
              have hptr := ptr_same
              cases bb
              · have hnn := nil_neq_nil
                go_wp2_with fail
                refine (drop_a (by omega) hbb A3.M.slab).mono ?_
                rintro e W5 ⟨rfl, hg5, hS5⟩
                have A5 := A3.turn hg5 hS5
                have b5 := b3.trans (grown_below' hg5 hgb b3.size)
                have A6 := A5.store8 q true
                have bl8 := A5.M.bl8
                have ord := A5.ord
                have b6 := b5.setCell (p := ⟨k8, q, none⟩) (by show w.heap.size ≤ k8; omega) (.bool true)
                obtain ⟨q2, qf⟩ := A5.M.c8 hbb
                have cN := A5.bN.cell
                have cc7 := A5.b7.cell
                have cc8 := A5.b8.cell
                go_wp2_with fail
                go_roundw
                case rel => exact ⟨j + 1, gone.set q true, by omega, by go_num, by rw [List.length_set]; exact hgl, A6, b6⟩
                case measure => simp [intOf]; omega
              · have hnn := nil_neq_nil
                go_wp2_with fail
                refine (drop_a (by omega) hbb A3.M.slab).mono ?_
                rintro e W5 ⟨rfl, hg5, hS5⟩
                have A5 := A3.turn hg5 hS5
                have b5 := b3.trans (grown_below' hg5 hgb b3.size)
                have A6 := A5.store8 q true
                have bl8 := A5.M.bl8
                have ord := A5.ord
                have b6 := b5.setCell (p := ⟨k8, q, none⟩) (by show w.heap.size ≤ k8; omega) (.bool true)
                obtain ⟨q2, qf⟩ := A5.M.c8 hbb
                have cN := A5.bN.cell
                have cc7 := A5.b7.cell
                have cc8 := A5.b8.cell
                go_wp2_with fail
                go_roundw
                case rel => exact ⟨j + 1, gone.set q true, by omega, by go_num, by rw [List.length_set]; exact hgl, A6, b6⟩
                case measure => simp [intOf]; omega
            · go_wp2_with fail
              go_meet
              exact ⟨gone, hgl, A, hb⟩
          · go_wp2_with fail
            go_meet
            exact ⟨gone, hgl, A, hb⟩
      case rest =>
        clear A hb cN cc7 cc8 lN l7 l8
        obtain ⟨gone, hgl, A, hb⟩ := hcut
        go_wp2_with fail
        go_loopw [16] (fun v wr => ∃ (j : Nat), j ≤ k ∧ v = .int .i64 j ∧ AM w.heap.size BB c7 (c7 + 1) gN k cap wr (.slice A7 k c7v) v8 (.slice A7 k c7v) v8 (aslots gN gone) (ahandles k) gone ∧ Below w.heap.size w wr) (fun v _ => k - (intOf v).toNat)
        case atStart => exact ⟨0, Nat.zero_le _, rfl, A, hb⟩
        case round =>
          clear A hb
          obtain ⟨q, hj, rfl, A, hb⟩ := hrel
          have cN := A.bN.cell
          have cc7 := A.b7.cell
          have cc8 := A.b8.cell
          by_cases hql : q < k
          · obtain ⟨bb, hbb⟩ : ∃ bb, gone[q]? = some bb := ⟨_, List.getElem?_eq_getElem (by omega)⟩
            have hqg : q < gone.length := by omega
            obtain ⟨k7, c7', e7, a0, a1, lt7, _⟩ := A.M.at7 (h_at hql)
            injection e7 with e7 e7m e7'; clear e7m
            subst e7 e7'
            obtain ⟨k8, c8', e8, a2, f2, lt8, _⟩ := A.M.at8 hbb
            subst e8
            have hptr := ptr_same
            cases bb
            · have hnn := nil_neq_nil
              go_wp2_with fail
              refine (get_a (by omega) hbb A.M.slab).mono ?_
              rintro e W5 ⟨rfl, hg5, hS5⟩
              have A5 := A.turn hg5 hS5
              have b5 := hb.trans (grown_below' hg5 hgb hb.size)
              obtain ⟨q2, qf⟩ := A5.M.c8 hbb
              have cN := A5.bN.cell
              have cc7 := A5.b7.cell
              have cc8 := A5.b8.cell
              go_wp2_with fail
              go_roundw
              case rel => exact ⟨q + 1, by omega, by go_num, A5, b5⟩
              case measure => simp [intOf]; omega
            · have hnn := nil_neq_nil
              go_wp2_with fail
              refine (get_a (by omega) hbb A.M.slab).mono ?_
              rintro e W5 ⟨rfl, hg5, hS5⟩
              have A5 := A.turn hg5 hS5
              have b5 := hb.trans (grown_below' hg5 hgb hb.size)
              obtain ⟨q2, qf⟩ := A5.M.c8 hbb
              have cN := A5.bN.cell
              have cc7 := A5.b7.cell
              have cc8 := A5.b8.cell
              go_wp2_with fail
              go_roundw
              case rel => exact ⟨q + 1, by omega, by go_num, A5, b5⟩
              case measure => simp [intOf]; omega
          · obtain rfl : q = k := by omega
            have hnil := fnil_p
            go_wp2_with fail
            refine (allof_p _ _).mono ?_
            rintro e W5 ⟨rfl, rfl⟩
            go_wp2_with fail
            have A0 := (A.alloc (.cells #[.int .i64 0] 3)).alloc (.cells #[.pointer (some ⟨w.heap.size + 3, 0, none⟩)] 23)
            have b0 := (hb.alloc hb.size (.cells #[.int .i64 0] 3)).alloc (by have := hb.size; simp; omega) (.cells #[.pointer (some ⟨w.heap.size + 3, 0, none⟩)] 23)
            have bx19 := (Boxed.new wr 3 (.int .i64 0)).alloc (.cells #[.pointer (some ⟨w.heap.size + 3, 0, none⟩)] 23)
            have bxS : Boxed ((wr.alloc (.cells #[.int .i64 0] 3)).alloc (.cells #[.pointer (some ⟨w.heap.size + 3, 0, none⟩)] 23)) (wr.heap.size + 1) 23 (.pointer (some ⟨w.heap.size + 3, 0, none⟩)) := by
              have := Boxed.new (wr.alloc (.cells #[.int .i64 0] 3)) 23 (.pointer (some ⟨w.heap.size + 3, 0, none⟩))
              rwa [World.size_alloc] at this
            have szX : ((wr.alloc (.cells #[.int .i64 0] 3)).alloc (.cells #[.pointer (some ⟨w.heap.size + 3, 0, none⟩)] 23)).heap.size = wr.heap.size + 2 := by simp
            have ltB : BB ≤ wr.heap.size := A.M.low.2.2
            clear A hb cN cc7 cc8
            generalize (wr.alloc (.cells #[.int .i64 0] 3)).alloc (.cells #[.pointer (some ⟨w.heap.size + 3, 0, none⟩)] 23) = WX at *
            generalize wr.heap.size = b19 at *
            clear wr
            have hord0 := A0.ord
            refine (wpIn_wide (n := 3)).1 ?_
            refine range_boxed (F := Fence.wide) rfl (by decide) (gf := 41) (lb := #[.pointer (some ⟨b19 + 1, 0, none⟩)]) rfl trivial (enters_of Try.func41 (by kernel_rfl) rfl)
              (allgp_stops Fence.wide 2 trivial rfl (by decide) (b19 + 1) (w.heap.size + 3) (w.heap.size + 2) (aslots gN gone) (by rw [a_len]; decide) (by rw [a_len]; decide) (a_ptr gN gone) (AGood gN gone) (a_good gN gone) WX (by omega) bxS.cell A0.M.slab)
              KT.trans (KT.putObj (w := WX)) (Below.refl _ _) (fun _ => rfl)
              (fun pre W => (AM w.heap.size BB c7 (c7 + 1) gN q cap W (.slice A7 q c7v) v8 (.slice A7 q c7v) v8 (aslots gN gone) (ahandles q) gone ∧ Boxed W b19 3 (.int .i64 (pre.length : Int))) ∧ (Below w.heap.size w W ∧ WX.heap.size ≤ W.heap.size))
              (fun _ _ _ => False)
              (OwnFrom.and (fun s A B row hs hg hr => ⟨hs.1.keptc hg (fun r e => (hr r e).2), boxed_own b19 3 (fun (_ : Unit) => Value.int .i64 (s.length : Int)) () A B row hs.2 hg (fun r e => (hr r e).2)⟩) (OwnFrom.and (ownFrom_below (Nat.le_refl _) (by have := b0.size; omega)) (fun s A B row hs hg hr => Nat.le_trans hs hg.size)))
              (fun _ _ _ _ _ hs _ _ => hs)
              ⟨⟨A0, bx19⟩, b0, Nat.le_refl _⟩
              (fun W Bx x => W.cell? ⟨Bx, 0, none⟩ = some (.int .i64 x.1.slot) ∧ W.cell? ⟨Bx, 1, none⟩ = some (.int .i64 x.1.gen))
              (fun a x Bx => { tmps := (((a.tmps.setIfInBounds 167 (.agg #[.int .i64 x.1.slot, .int .i64 x.1.gen])).setIfInBounds 168 x.1.x).setIfInBounds 21 (.pointer (some ⟨Bx, 0, none⟩))).setIfInBounds 22 x.1.x, defers := [] })
              (fun Bx x s A B row hs hg hr => ⟨cell_kept hs.1 hg (fun r e => (hr r e).2), cell_kept hs.2 hg (fun r e => (hr r e).2)⟩)
              ?assign ?body ?done ?stop
            case assign =>
              rintro l pre x W K ⟨⟨A, bx⟩, hb, hs⟩ hK
              gi_wp2
              have h := hK W.heap.size (W.alloc (.cells #[.int .i64 x.1.slot, .int .i64 x.1.gen] 32)) hs ((KeepsOthers.alloc _ _).from _) (KT.below ((Below.refl _ W).alloc (Nat.le_refl _) _)) ⟨⟨A.alloc _, bx.alloc _⟩, hb.alloc hb.size _, Nat.le_trans hs (by simp)⟩ ⟨by simp [go_sem], by simp [go_sem]⟩
              simp only [List.setIfInBounds_toArray, List.set_cons_succ, List.set_cons_zero] at h
              exact h
            case body =>
              rintro l pre ⟨x, j, hgj, rfl⟩ Bx W hBx ⟨⟨A, bx⟩, hb, hs⟩ ⟨hx0, hx1⟩ hlt
              rw [a_len] at hlt
              simp only [adr, List.setIfInBounds_toArray, List.set_cons_succ, List.set_cons_zero]
              have hjq : j < q := by have := (List.getElem?_eq_some_iff.1 hgj).1; omega
              obtain ⟨k7, c7', e7, a0, a1, lt7, _⟩ := A.M.at7 (h_at hjq)
              injection e7 with e7 e7m e7'; clear e7m
              subst e7 e7'
              obtain ⟨k8, c8', e8, a2, f2, lt8, _⟩ := A.M.at8 hgj
              subst e8
              clear a0 a1 a2 f2
              have cN := A.bN.cell
              have cc7 := A.b7.cell
              have cc8 := A.b8.cell
              have lN := A.bN.lt
              have l7 := A.b7.lt
              have l8 := A.b8.lt
              have lx : Bx < W.heap.size := World.block_lt_of_cell? W _ hx0
              simp only at hx0 hx1
              have hptr := ptr_eql
              gi_wp2_with fail
              gi_loopw [23, 24] (fun v23 v wr => ∃ i : Nat, i ≤ q ∧ v = .int .i64 i ∧ v23 = .bool (decide (j < i)) ∧ Below W.heap.size W wr) (fun _ v _ => q - (intOf v).toNat)
              case atStart => exact ⟨0, Nat.zero_le _, rfl, rfl, Below.refl _ _⟩
              case round =>
                obtain ⟨i, hi, rfl, rfl, hbi⟩ := hrel
                have cc7' := (hbi.cell (p := ⟨c7, 0, none⟩) l7).trans cc7
                by_cases hiq : i < q
                · obtain ⟨bb, hbb⟩ : ∃ bb, gone[i]? = some bb := ⟨_, List.getElem?_eq_getElem (by omega)⟩
                  have hig : i < gone.length := by omega
                  obtain ⟨a0, a1⟩ := A.M.c7' (h_at hiq)
                  obtain ⟨a2, f2⟩ := A.M.c8 hbb
                  rcases Nat.lt_trichotomy i j with hij | hij | hij
                  · have hd : decide (j < i) = false := decide_eq_false (by omega)
                    have he : ((i : Int) == (j : Int)) = false := by simp only [beq_eq_false_iff_ne]; omega
                    gi_wp2_with fail
                    refine wpIn_region_bw_round W.heap.size W hbi (by kernel_rfl) (by kernel_rfl) (by kernel_rfl) ?_
                    repeat (gi_big_quiet_step (fail))
                    refine wpQuietIn_nil ?_
                    intro x
                    gi_wp2_with fail
                    go_roundw
                    case rel => exact ⟨i + 1, by omega, by go_num, by rw [decide_eq_false (by omega : ¬ j < i + 1)], x.h⟩
                    case measure => simp [intOf]; omega
                  · subst hij
                    rw [hgj] at hbb; cases hbb
                    have hd : decide (i < i) = false := decide_eq_false (by omega)
                    gi_wp2_with fail
                    refine wpIn_region_bw_round W.heap.size W hbi (by kernel_rfl) (by kernel_rfl) (by kernel_rfl) ?_
                    repeat (gi_big_quiet_step (fail))
                    refine wpQuietIn_nil ?_
                    intro x
                    gi_wp2_with fail
                    go_roundw
                    case rel => exact ⟨i + 1, by omega, by go_num, by rw [decide_eq_true (by omega : i < i + 1)], x.h⟩
                    case measure => simp [intOf]; omega
                  · have hd : decide (j < i) = true := decide_eq_true (by omega)
                    gi_wp2_with fail
                    refine wpIn_region_bw_round W.heap.size W hbi (by kernel_rfl) (by kernel_rfl) (by kernel_rfl) ?_
                    repeat (gi_big_quiet_step (fail))
                    refine wpQuietIn_nil ?_
                    intro x
                    gi_wp2_with fail
                    go_roundw
                    case rel => exact ⟨i + 1, by omega, by go_num, by rw [decide_eq_true (by omega : j < i + 1)], x.h⟩
                    case measure => simp [intOf]; omega
                · obtain rfl : i = q := by omega
                  have hd : decide (j < i) = true := decide_eq_true (by omega)
                  have bx' : Boxed wr b19 3 (.int .i64 (pre.length : Int)) := (hbi.block _ bx.lt).trans bx
                  have cb := bx'.cell
                  have fb := bx'.frozen
                  gi_wp2_with fail
                  refine ⟨(KeepsFrom.of_grownBy (row := none) (below_grown hbi) (fun j e => by cases e)).trans ((KeepsOthers.setCell _ _ _).from _), (KT.below hbi).trans (KT.set (.inr fun cur fr e => ?_)), ⟨(A.below hbi).farb ltB bx' _, ?_⟩, (hb.trans (hbi.mono hb.size)).setCell (p := ⟨b19, 0, none⟩) (by show w.heap.size ≤ b19; omega) _, Nat.le_trans hs (by simpa using hbi.size)⟩
                  · rw [show wr.heap[b19]? = _ from bx'] at e; cases e
                  · have := bx'.set (.int .i64 ((pre.length : Int) + 1))
                    simpa using this
            case done =>
              rintro D ys W hD hys ⟨⟨A, bx⟩, hb, hs⟩ hK
              have hlen : ys.length = ((aslots gN gone).filter (·.full)).length := by
                rw [← hys, List.length_map]
              have cb := bx.cell
              have cR := A.bR.cell
              have fR := A.bR.frozen
              have K15 := Lib.hid (fun (u : World) (hu : SlabAt 97 u (w.heap.size + 3) (w.heap.size + 2) (aslots gN gone)) => by
                have := len_p (w.heap.size + 3) (w.heap.size + 2) _ (by rw [a_len]; decide) (by rw [a_len]; decide) (a_ptr gN gone) u hu
                rw [← hlen] at this
                exact this)
              have SL := Lib.hid A.M.slab
              have lb := bx.lt
              have lR := A.bR.lt
              have HK := Lib.hid hK
              clear hlen hys hK
              go_wp2_with fail
              refine wp_normal ?_
              go_region_with (go_at_call 15; go_must (refine Calls.mono (K15.out _ (slab_heap SL.out rfl)) ?_; rintro e w' ⟨rfl, z, rfl⟩); have cb2 := (z.h.cell (p := ⟨b19, 0, none⟩) lb).trans cb; have cR2 := (z.h.cell (p := ⟨w.heap.size + 1, 0, none⟩) lR).trans cR; have fR2 := (z.h.frozen (p := ⟨w.heap.size + 1, 0, none⟩) lR).trans fR)
              all_goals dsimp only
              all_goals go_wp2_with fail
              all_goals (have hD2 : D < W.heap.size := (Array.getElem?_eq_some_iff.1 HK.out).1)
              all_goals (have hne : D ≠ w.heap.size + 1 := by have := A.ord; have := A.M.low; omega)
              all_goals (have hK2 : (z.i.setCell ⟨w.heap.size + 1, 0, none⟩ (.bool true)).heap[D]? = some (.deferred (some [])) := (Below.heap_setCell z.i ⟨w.heap.size + 1, 0, none⟩ (.bool true) D hne).trans ((z.h.block D hD2).trans HK.out))
              all_goals (have hc2 : (z.i.setCell ⟨w.heap.size + 1, 0, none⟩ (.bool true)).cell? ⟨w.heap.size + 1, 0, none⟩ = some (.bool true) := World.cell?_setCell_same' _ _ _ (by rw [cR2]; rfl))
              all_goals (have hc3 := cell_kept hc2 (grownBy_putObj' _ D (.deferred none)) (fun r e => by cases e; exact ⟨_, hK2, rfl⟩))
              all_goals (have hb4 := ((hb.drew.trans (z.h.mono hb.size)).setCell (p := ⟨w.heap.size + 1, 0, none⟩) (by show w.heap.size ≤ w.heap.size + 1; omega) (.bool true)).grown (grownBy_putObj' _ D (.deferred none)) (by have := hb.size; have h9 : W.heap.size ≤ z.i.heap.size := z.h.size; simp; omega) (fun j e => by cases e; have := b0.size; omega))
              all_goals refine ⟨by simp, .inl ⟨_, _, rfl, run_takeDeferred hK2, ?_⟩⟩
              all_goals exact ⟨.bool true, by simp [results, Try.results3, go_sem, hc3], gives_of_eq rfl hb4⟩
            case stop =>
              rintro D c pre W _ _ h _
              exact h.elim
end Go.Proofs.Ytpnegofmebfcgaa
