/- Slab: memory of Ranges, more: the handles told grow; the row that is ranged over beside it. -/
import Derived.Test.YtpnegofmebfcgaaV1
import Derived.Test.YtpnegofmebfcgaaP3
import Derived.Test.YtpnegofmebfcgaaUC
namespace Go.Proofs.Ytpnegofmebfcgaa
open Go.RowKit Go.Shelf
set_option linter.unusedVariables false
set_option linter.unusedSimpArgs false

theorem own_type {w : World} {B0 E size n : Nat} {u : Value} {xs : List Value} (h : w.ownsRow B0 E size u n xs) {k : Nat} (hk : u.ownBlock = some k) : ∃ cur fr, w.heap[k]? = some (.cells cur E fr) ∧ k < w.heap.size := by
  rcases h.2 with ⟨rfl, _⟩ | ⟨c, cap, cur, rfl, _, hh, _⟩
  · cases hk
  · have e : c = k := by simpa [Value.ownBlock] using hk
    subst e
    exact ⟨_, _, hh, (Array.getElem?_eq_some_iff.1 hh).1⟩
theorem own_sturn {w w' : World} {B0 E size n g bm o : Nat} {own : Option Nat} {u : Value} {xs : List Value} (h : w.ownsRow B0 E size u n xs) (hr : STurn g bm o own w w') (hb : bm < B0) (hg : g < B0) (hne : u.ownBlock = none ∨ u.ownBlock ≠ own) : w'.ownsRow B0 E size u n xs := by
  refine ⟨h.1, ?_⟩
  rcases h.2 with h0 | ⟨k, cap, cur, rfl, hk, hh, rest⟩
  · exact .inl h0
  · refine .inr ⟨k, cap, cur, rfl, hk, ?_, rest⟩
    rw [hr.block k (Array.getElem?_eq_some_iff.1 hh).1 (by omega) (by omega) (by
      rcases hne with h1 | h1
      · cases h1
      · exact h1)]
    exact hh
theorem RefAt.grown {B : Nat} {w w' : World} {bm o : Nat} {v : Value} {n : Int} {all : List HV} {row : Option Nat} (h : RefAt B w bm o v n all) (hg : w.grownBy w' row) (h1 : row ≠ some bm) (h2 : v.ownBlock = none ∨ v.ownBlock ≠ row) : RefAt B w' bm o v n all := by
  have hl := h.lm
  have hne : some bm ≠ row := fun e => h1 e.symm
  exact ⟨(hg.cell_far ⟨bm, o, none⟩ hl hne).trans h.c0, (hg.cell_far ⟨bm, o + 1, none⟩ hl hne).trans h.c1, (hg.frozen_far ⟨bm, o + 1, none⟩ hl hne).trans h.f1, h.row.kept hg h2, h.low.1, Nat.le_trans h.low.2 hg.size⟩
theorem RefAt.keptc {B : Nat} {w w' : World} {bm o : Nat} {v : Value} {n : Int} {all : List HV} {row : Option Nat} (h : RefAt B w bm o v n all) (hg : w.grownBy w' row) (hr : ∀ r, row = some r → ∃ ob : Obj, w.heap[r]? = some ob ∧ ob.isCells = false) : RefAt B w' bm o v n all :=
  ⟨cell_kept h.c0 hg hr, cell_kept h.c1 hg hr, (frozen_kept h.c1 hg hr).trans h.f1, own_keptc h.row hg hr, h.low.1, Nat.le_trans h.low.2 hg.size⟩

section
variable {n0 B b9 bm bE b14 : Nat} {during : Value} {w w' : World} {x14 v14 v : Value} {S : Nat} {l l' : List SL} {all all' : List HV} {told : List (Int × Int)}
theorem RM.app (h : RM n0 B b9 bm bE b14 during w x14 v14 v S l all told) {k c : Nat} {a b : Int} (ho : w'.ownsRow B 32 2 (.slice (some ⟨k, 0, none⟩) (told.length + 1) c) (told.length + 1) (hcells told ++ [.int .i64 a, .int .i64 b]))
    (hg : w.grownBy w' v14.ownBlock) (hk : v14.ownBlock = some k ∨ k = w.heap.size) : RM n0 B b9 bm bE b14 during w' x14 (.slice (some ⟨k, 0, none⟩) (told.length + 1) c) v S l all (told ++ [(a, b)]) := by
  obtain ⟨o1, o2, o3, o4, o5, o6⟩ := h.ord
  have hown : ∀ k, k < B → some k ≠ v14.ownBlock := fun k hk e => own_ne h.r14 hk e.symm
  have hne : v.ownBlock = none ∨ v.ownBlock ≠ v14.ownBlock := by
    rcases h.ne with h1 | h1
    · rw [h1]; exact none_or _
    · exact .inr fun e => h1 e.symm
  obtain ⟨a1, a2, a3, a4, a5⟩ := h.boxes (w' := w') (fun k hk _ _ _ => hg.block k (by omega) (hown k hk))
  refine ⟨h.slab.grown hg (fun e => hown _ (by omega) e.symm) (fun e => hown _ (by omega) e.symm), h.ref.grown hg (fun e => hown _ (by omega) e.symm) hne, a1, a2, a3, a4, a5, ?_, .inr fun e => ?_, o1, o2, o3, o4, o5, Nat.le_trans o6 hg.size⟩
  · rw [List.length_append, List.length_singleton, hcells_app]; exact ho
  · have e' : v.ownBlock = some k := e.symm
    rcases hk with hk | hk
    · rcases h.ne with h1 | h1
      · rw [h1] at hk; cases hk
      · exact h1 (hk.trans e'.symm)
    · have := (h.ref.row.lt k e').2; omega
theorem RM.set14 (h : RM n0 B b9 bm bE b14 during w x14 v14 v S l all told) (u : Value) : RM n0 B b9 bm bE b14 during (w.setCell ⟨b14, 0, none⟩ u) u v14 v S l all told := by
  obtain ⟨o1, o2, o3, o4, o5, o6⟩ := h.ord
  have hown : ∀ k, k < B → some k ≠ v.ownBlock := fun k hk e => own_ne h.ref.row hk e.symm
  exact ⟨h.slab.far (by omega) (by omega) 0 u, h.ref.setNew (by omega) (hown _ o5) 0 u, h.b7.other (by omega) _, h.b8.other (by omega) _, h.b9_.other (by omega) _, h.bE_.other (by omega) _, h.b14_.set u, ownsRow_setCell_below h.r14 o5 u, h.ne, o1, o2, o3, o4, o5, by simpa using o6⟩
theorem RM.farb (h : RM n0 B b9 bm bE b14 during w x14 v14 v S l all told) {b : Nat} {u0 : Value} (hB : B ≤ b) (hb : Boxed w b 3 u0) (u : Value) : RM n0 B b9 bm bE b14 during (w.setCell ⟨b, 0, none⟩ u) x14 v14 v S l all told := by
  obtain ⟨o1, o2, o3, o4, o5, o6⟩ := h.ord
  exact ⟨h.slab.far (by omega) (by omega) 0 u, h.ref.setNew (by omega) (hb.not_row (by decide) h.ref.row) 0 u, h.b7.other (by omega) _, h.b8.other (by omega) _, h.b9_.other (by omega) _, h.bE_.other (by omega) _, h.b14_.other (by omega) _, own_far h.r14 hb (by decide) u, h.ne, o1, o2, o3, o4, o5, by simpa using o6⟩
theorem RM.keptc {row : Option Nat} (h : RM n0 B b9 bm bE b14 during w x14 v14 v S l all told) (hg : w.grownBy w' row) (hr : ∀ r, row = some r → ∃ o : Obj, w.heap[r]? = some o ∧ o.isCells = false) : RM n0 B b9 bm bE b14 during w' x14 v14 v S l all told := by
  obtain ⟨o1, o2, o3, o4, o5, o6⟩ := h.ord
  have hb : ∀ (b : Nat) (t : TypeId) (v : Value), Boxed w b t v → some b ≠ row := fun b t v hv e => by
    obtain ⟨o, ho, hc⟩ := hr b e.symm
    rw [show w.heap[b]? = _ from hv] at ho; cases ho; cases hc
  exact ⟨h.slab.keptc hg hr, h.ref.keptc hg hr, h.b7.kept hg (hb _ _ _ h.b7), h.b8.kept hg (hb _ _ _ h.b8), h.b9_.kept hg (hb _ _ _ h.b9_), h.bE_.kept hg (hb _ _ _ h.bE_), h.b14_.kept hg (hb _ _ _ h.b14_), own_keptc h.r14 hg hr, h.ne, o1, o2, o3, o4, o5, Nat.le_trans o6 hg.size⟩
end

/-- beside it: what is wanted, in a row of its own, and how far one is -/
structure BM (n0 B b9 bm bE b14 b22 b23 bW : Nat) (during v14 vw : Value) (S : Nat) (told : List (Int × Int)) (L : List HV) (w : World) (v : Value) (l : List SL) (all : List HV) (k : Nat) : Prop where
  rm : RM n0 B b9 bm bE b14 during w v14 v14 v S l all told
  b22_ : Boxed w b22 56 vw
  b23_ : Boxed w b23 3 (.int .i64 (k : Int))
  row : w.ownsRow bW 82 4 vw L.length (hvs L)
  ne : vw.ownBlock = none ∨ vw.ownBlock ≠ v.ownBlock
  ord : B ≤ bW ∧ B ≤ b22 ∧ b22 < b23
section
variable {n0 B b9 bm bE b14 b22 b23 bW : Nat} {during v14 vw : Value} {S : Nat} {told : List (Int × Int)} {L : List HV} {w w' : World} {v : Value} {l l' : List SL} {all all' : List HV} {k : Nat}
theorem BM.below (h : BM n0 B b9 bm bE b14 b22 b23 bW during v14 vw S told L w v l all k) (hb : Below w.heap.size w w') : BM n0 B b9 bm bE b14 b22 b23 bW during v14 vw S told L w' v l all k :=
  ⟨h.rm.below hb, h.b22_.kept (row := none) (below_grown hb) (by simp), h.b23_.kept (row := none) (below_grown hb) (by simp), h.row.kept (below_grown (row := none) hb) (none_or _), h.ne, h.ord⟩
theorem BM.keptc {row : Option Nat} (h : BM n0 B b9 bm bE b14 b22 b23 bW during v14 vw S told L w v l all k) (hg : w.grownBy w' row) (hr : ∀ r, row = some r → ∃ o : Obj, w.heap[r]? = some o ∧ o.isCells = false) : BM n0 B b9 bm bE b14 b22 b23 bW during v14 vw S told L w' v l all k := by
  have hb : ∀ (b : Nat) (t : TypeId) (v : Value), Boxed w b t v → some b ≠ row := fun b t v hv e => by
    obtain ⟨o, ho, hc⟩ := hr b e.symm
    rw [show w.heap[b]? = _ from hv] at ho; cases ho; cases hc
  exact ⟨h.rm.keptc hg hr, h.b22_.kept hg (hb _ _ _ h.b22_), h.b23_.kept hg (hb _ _ _ h.b23_), own_keptc h.row hg hr, h.ne, h.ord⟩
theorem BM.step (h : BM n0 B b9 bm bE b14 b22 b23 bW during v14 vw S told L w v l all k) {v' : Value} (hr : STurn (n0 + 2) bm 0 v.ownBlock w w') (hS : SlabAt 111 w' (n0 + 3) (n0 + 2) l') (hR : RefAt B w' bm 0 v' S all') (hv : v'.ownBlock = v.ownBlock ∨ ∃ k, v'.ownBlock = some k ∧ w.heap.size ≤ k) : BM n0 B b9 bm bE b14 b22 b23 bW during v14 vw S told L w' v' l' all' k := by
  obtain ⟨o1, o2, o3, o4, o5, o6⟩ := h.rm.ord
  obtain ⟨p1, p2, p3⟩ := h.ord
  have n22 := h.b22_.not_row (by decide) h.rm.ref.row
  have n23 := h.b23_.not_row (by decide) h.rm.ref.row
  refine ⟨h.rm.stepTurn hr hS hR hv, (hr.block _ h.b22_.lt (by omega) (by omega) n22).trans h.b22_, (hr.block _ h.b23_.lt (by omega) (by omega) n23).trans h.b23_, own_sturn h.row hr (by omega) (by omega) h.ne, ?_, h.ord⟩
  rcases h.ne with h1 | h1
  · exact .inl h1
  · rcases hv with h2 | ⟨k, h2, h3⟩
    · exact .inr (fun e => h1 (e.trans h2))
    · refine .inr (fun e => ?_)
      have := (h.row.lt k (e.trans h2)).2
      omega
theorem BM.next (h : BM n0 B b9 bm bE b14 b22 b23 bW during v14 vw S told L w v l all k) : BM n0 B b9 bm bE b14 b22 b23 bW during v14 vw S told L (w.setCell ⟨b23, 0, none⟩ (.int .i64 ((k : Int) + 1))) v l all (k + 1) := by
  obtain ⟨p1, p2, p3⟩ := h.ord
  refine ⟨h.rm.farb (by omega) h.b23_ _, h.b22_.other (by omega) _, ?_, own_far h.row h.b23_ (by decide) _, h.ne, h.ord⟩
  have := h.b23_.set (.int .i64 ((k : Int) + 1))
  simpa using this
end
/-- what a step leaves alone of the blocks of the slab's type that the loop has made -/
theorem KN.sturn {n1 g bm o : Nat} {w w' : World} {B : Nat} {v : Value} {n : Int} {all : List HV} (hr : STurn g bm o v.ownBlock w w') (h1 : g < n1) (h2 : bm < n1) (hR : RefAt B w bm o v n all) : KN 111 n1 w w' :=
  ⟨hr.size, fun k cur fr hk hh => (hr.block k (Array.getElem?_eq_some_iff.1 hh).1 (by omega) (by omega) (fun e => by
    obtain ⟨c2, f2, h3, _⟩ := own_type hR.row e.symm
    rw [hh] at h3; cases h3)).trans hh⟩
theorem KeepsFrom.sturn {n1 g bm o : Nat} {w w' : World} {B : Nat} {v : Value} {n : Int} {all : List HV} (hr : STurn g bm o v.ownBlock w w') (h1 : g < n1) (h2 : bm < n1) (hR : RefAt B w bm o v n all) : KeepsFrom n1 w w' :=
  ⟨hr.size, fun k ob hk hh hc => (hr.block k (Array.getElem?_eq_some_iff.1 hh).1 (by omega) (by omega) (fun e => by
    obtain ⟨c2, f2, h3, _⟩ := own_type hR.row e.symm
    rw [hh] at h3; cases h3; cases hc)).trans hh⟩
/-- all that was there when the call began stays -/
theorem Below.sturn {n0 g bm o : Nat} {w u u' : World} {own : Option Nat} (hb : Below n0 w u) (hr : STurn g bm o own u u') (hn : n0 ≤ u.heap.size) (h1 : n0 ≤ g) (h2 : n0 ≤ bm) (h3 : ∀ k, own = some k → n0 ≤ k) : Below n0 w u' :=
  ⟨hr.os.trans hb.os, hr.tape.trans hb.tape, hr.output.trans hb.output, Nat.le_trans hb.size hr.size, fun k hk => (hr.block k (by omega) (by omega) (by omega) (fun e => by have := h3 k e.symm; omega)).trans (hb.block k hk)⟩
theorem Below.rturn {n0 bm o : Nat} {w u u' : World} {own : Option Nat} (hb : Below n0 w u) (hr : RTurn bm o own u u') (hn : n0 ≤ u.heap.size) (h2 : n0 ≤ bm) (h3 : ∀ k, own = some k → n0 ≤ k) : Below n0 w u' :=
  ⟨hr.os.trans hb.os, hr.tape.trans hb.tape, hr.output.trans hb.output, Nat.le_trans hb.size hr.size, fun k hk => (hr.block k (by omega) (by omega) (fun e => by have := h3 k e.symm; omega)).trans (hb.block k hk)⟩

theorem append_zero4 (b : Nat) (A : Option Addr) (c : Nat) (w : World) : (Builtin.append_ #[56, 56] 56 #[.slice (some ⟨b, 0, none⟩) 0 0, .slice A 0 c]).run Try.prog w = .ok (.slice (some ⟨b, 0, none⟩) 0 0) w := by
  obtain ⟨i0, hi, hz0, hz1, hz2⟩ := info_parts Try.info82
  cases A <;> simp [Builtin.append_, run_underlying Try.underlying56, sizeOf, typeInfo, hi, Builtin.lenOf, Builtin.firstCells, loadCells, loadCellsFrom, storeCells]
theorem hvs_one (L : List HV) : ∀ u ∈ hvs L, u.oneCell' = true := by
  induction L with
  | nil => intro u hu; simp [hvs] at hu
  | cons e r ih =>
    intro u hu
    rw [show hvs (e :: r) = HV.cells e ++ hvs r from rfl] at hu
    rcases List.mem_append.1 hu with h | h
    · simp only [HV.cells, List.mem_cons, List.not_mem_nil, or_false] at h
      rcases h with rfl | rfl | rfl | rfl <;> rfl
    · exact ih u h
theorem wpList_copy4 {w : World} {ops : Array Oper} {rest : List Oper} {o : Oper} {a : Act} {Q : Exit → Act → World → Prop} (hgd : o.guard = none) (s x : Operand)
    (ho : o.op = .call { callee := .builtin .append, args := #[s, x], argTypes := #[56, 56] }) (hty : o.type = 56) (b bx : Nat) (u : Value) (L : List HV) (hs : a.eval s = .slice (some ⟨b, 0, none⟩) 0 0) (hx : a.eval x = u)
    (hown : w.ownsRow b 82 4 (.slice (some ⟨b, 0, none⟩) 0 0) 0 []) (hbw : b ≤ w.heap.size) (hm : L.length ≤ 4096) (hr : w.ownsRow bx 82 4 u L.length (hvs L))
    (h : ∀ vw w', Below b w w' → w'.ownsRow b 82 4 vw L.length (hvs L) → wpList Try.prog ops Q rest (a.put o.dst vw) w') : wpList Try.prog ops Q (o :: rest) a w := by
  obtain ⟨i0, hi0, hz0, hz1, hz2⟩ := info_parts Try.info82
  have hbl : b < w.heap.size := (hown.lt b rfl).2
  rcases Nat.eq_zero_or_pos L.length with h0 | h0
  · have hL : L = [] := List.eq_nil_of_length_eq_zero h0
    subst hL
    obtain ⟨A, c, rfl, _⟩ := own_rd hr
    refine wpList_append_run hgd s x 56 ho _ _ _ hs hx (by rw [hty]; exact append_zero4 b A c w) ?_
    exact h _ w (Below.refl _ _) hown
  · obtain ⟨k, c, rfl, hk1, hk2⟩ := hr.form h0
    refine wpList_append_lies w hgd s x 56 ho b 82 i0 (.agg #[.int .i64 0, .int .i64 0, .string .empty, .bool false]) 4 40 Try.underlying56 hi0 hz0 hz1 hz2 rfl (by decide) _ 0 [] hs hown ⟨k, 0, none⟩ L.length c (hvs L) hx (hvs_len L) (fun j u hu => ?_) (hvs_one L) h0 (by unfold maxLen; omega) (by omega) hbw _ rfl ?_
    · rw [add_off, Nat.zero_add, hr.cellAt _ (by have := (List.getElem?_eq_some_iff.1 hu).1; rw [hvs_len] at this; omega)]; exact hu
    · intro gN cap w' hown' hg hat' hlt
      rw [Nat.zero_add] at hown' ⊢
      exact h _ w' (grown_belowB hg (fun k hk => by
        have : b = k := by simpa [Value.ownBlock] using hk
        omega) hbw) (by simpa using hown')
end Go.Proofs.Ytpnegofmebfcgaa
