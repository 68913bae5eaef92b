/- Slab: memory of Plays: four slabs, real or none, and the reference's four, in one block each; the handles told. -/
import Derived.Test.YtpnegofmebfcgaaY2
import Derived.Test.YtpnegofmebfcgaaV4
namespace Go.Proofs.Ytpnegofmebfcgaa
open Go.RowKit Go.Shelf
set_option linter.unusedVariables false
set_option linter.unusedSimpArgs false

structure Un where
  p : Option Addr
  ps : Nat
  g : Nat
  v : Value
  S : Nat
  l : List SL
  all : List HV
structure Un.mem (u : Un) (w : World) (B bs bm k : Nat) : Prop where
  ref : RefAt B w bm (k * 2) u.v (u.S : Int) u.all
  ps_ : u.ps < B ∧ u.ps ≠ bm
  s_ : w.cell? ⟨bs, k, none⟩ = some (.pointer u.p)
  alt : (u.S = 0 ∧ u.all = [] ∧ u.l = [] ∧ (u.p = none ∨ (u.p = some ⟨u.ps, 0, none⟩ ∧ w.cell? ⟨u.ps, 0, none⟩ = some (.slice none 0 0)))) ∨
    (0 < u.S ∧ u.S ≤ 4096 ∧ u.l.length = u.S ∧ RInv u.l u.all ∧ u.p = some ⟨u.ps, 0, none⟩ ∧ SlabAt 111 w u.ps u.g u.l ∧ u.g < B ∧ u.g ≠ bm ∧ u.g ≠ bs)
def Un.apart (a b : Un) : Prop := (0 < b.S → a.ps ≠ b.g ∧ (0 < a.S → a.g ≠ b.g)) ∧ (a.v.ownBlock = none ∨ a.v.ownBlock ≠ b.v.ownBlock)
structure PM (n0 B bs bm : Nat) (w : World) (us : List Un) (vt : Value) (told : List (Int × Int)) : Prop where
  len : us.length = 4
  un : ∀ (k : Nat) (u : Un), us[k]? = some u → u.mem w B bs bm k
  ap : ∀ (i j : Nat) (a b : Un), i ≠ j → us[i]? = some a → us[j]? = some b → a.apart b
  row : w.ownsRow B 32 2 vt told.length (hcells told)
  ne : ∀ (k : Nat) (u : Un), us[k]? = some u → vt.ownBlock = none ∨ vt.ownBlock ≠ u.v.ownBlock
  ord : bs < B ∧ bm < B ∧ bs ≠ bm ∧ B ≤ w.heap.size
  lo : n0 ≤ bm ∧ ∀ (k : Nat) (u : Un), us[k]? = some u → n0 ≤ u.g

section
variable {w w' : World} {n0 B bs bm k : Nat} {u : Un} {us : List Un} {vt : Value} {told : List (Int × Int)}
theorem Un.mem.vd (h : u.mem w B bs bm k) (h0 : u.S = 0) : Vd w u.p := by
  rcases h.alt with ⟨_, _, _, h1⟩ | ⟨h1, _⟩
  · rcases h1 with h1 | ⟨h1, h2⟩
    · exact .inl h1
    · exact .inr ⟨u.ps, h1, h2⟩
  · omega
/-- what lies below B, but for the reference's block: other blocks are as they were -/
theorem Un.mem.kept (h : u.mem w B bs bm k) (hbs : bs < B ∧ bs ≠ bm) (hb : ∀ j, j < B → j ≠ bm → (0 < u.S → True) → (j = bs ∨ j = u.ps ∨ (0 < u.S ∧ j = u.g)) → w'.heap[j]? = w.heap[j]?) (hr : RefAt B w' bm (k * 2) u.v (u.S : Int) u.all) : u.mem w' B bs bm k := by
  refine ⟨hr, h.ps_, (World.cell?_of_block (a := ⟨bs, k, none⟩) (hb bs hbs.1 hbs.2 (fun _ => trivial) (.inl rfl))).trans h.s_, ?_⟩
  rcases h.alt with ⟨h0, h1, h2, h3⟩ | ⟨h0, h1, h2, h3, h4, h5, h6, h7, h8⟩
  · refine .inl ⟨h0, h1, h2, h3.imp id fun ⟨a, b⟩ => ⟨a, (World.cell?_of_block (a := ⟨u.ps, 0, none⟩) (hb u.ps h.ps_.1 h.ps_.2 (fun _ => trivial) (.inr (.inl rfl)))).trans b⟩⟩
  · exact .inr ⟨h0, h1, h2, h3, h4, ⟨(World.cell?_of_block (a := ⟨u.ps, 0, none⟩) (hb u.ps h.ps_.1 h.ps_.2 (fun _ => trivial) (.inr (.inl rfl)))).trans h5.ptr, (hb u.g h6 h7 (fun _ => trivial) (.inr (.inr ⟨h0, rfl⟩))).trans h5.blk, h5.ne⟩, h6, h7, h8⟩
theorem PM.below (h : PM n0 B bs bm w us vt told) (hb : Below w.heap.size w w') : PM n0 B bs bm w' us vt told := by
  obtain ⟨o1, o2, o3, o4⟩ := h.ord
  exact ⟨h.len, fun k u hu => (h.un k u hu).kept ⟨o1, o3⟩ (fun j hj _ _ _ => hb.block j (by omega)) ((h.un k u hu).ref.below hb), h.ap, h.row.kept (below_grown (row := none) hb) (none_or _), h.ne, ⟨o1, o2, o3, Nat.le_trans o4 hb.size⟩, h.lo⟩
theorem PM.alloc (h : PM n0 B bs bm w us vt told) (o : Obj) : PM n0 B bs bm (w.alloc o) us vt told := h.below ((Below.refl _ w).alloc (Nat.le_refl _) o)
theorem PM.drew (h : PM n0 B bs bm w us vt told) : PM n0 B bs bm w.drew us vt told := h.below (Below.refl _ _).drew
theorem RefAt.sturn_other {B : Nat} {w w' : World} {bm o o' g : Nat} {own : Option Nat} {v : Value} {n : Int} {all : List HV} (h : RefAt B w bm o v n all) (hr : STurn g bm o' own w w') (ho : o ≠ o' + 1 ∧ o + 1 ≠ o' + 1) (hg : g < B) (hv : v.ownBlock = none ∨ v.ownBlock ≠ own) : RefAt B w' bm o v n all :=
  ⟨(hr.cell o ho.1).trans h.c0, (hr.cell (o + 1) ho.2).trans h.c1, (hr.frozen (o + 1)).trans h.f1, own_sturn h.row hr h.low.1 hg hv, h.low.1, Nat.le_trans h.low.2 hr.size⟩
/-- one of them turned -/
theorem PM.step (h : PM n0 B bs bm w us vt told) (hu : us[k]? = some u) {l' : List SL} {all' : List HV} {v' : Value} (hS0 : 0 < u.S) (hr : STurn u.g bm (k * 2) u.v.ownBlock w w') (hl : l'.length = u.S) (hI : RInv l' all') (hS : SlabAt 111 w' u.ps u.g l') (hR : RefAt B w' bm (k * 2) v' (u.S : Int) all')
    (hv : v'.ownBlock = u.v.ownBlock ∨ ∃ j, v'.ownBlock = some j ∧ w.heap.size ≤ j) : PM n0 B bs bm w' (us.set k { u with v := v', l := l', all := all' }) vt told := by
  obtain ⟨o1, o2, o3, o4⟩ := h.ord
  have hm := h.un k u hu
  have hk : k < us.length := (List.getElem?_eq_some_iff.1 hu).1
  obtain ⟨_, a1, a2, a3, a4, a5, a6, a7, a8⟩ : 0 < u.S ∧ u.S ≤ 4096 ∧ u.l.length = u.S ∧ RInv u.l u.all ∧ u.p = some ⟨u.ps, 0, none⟩ ∧ SlabAt 111 w u.ps u.g u.l ∧ u.g < B ∧ u.g ≠ bm ∧ u.g ≠ bs := by
    rcases hm.alt with h1 | h1
    · have := h1.1; omega
    · exact h1
  have hown : ∀ j, j < B → some j ≠ u.v.ownBlock := fun j hj e => own_ne hm.ref.row hj e.symm
  have key : ∀ (i : Nat) (a : Un), (us.set k { u with v := v', l := l', all := all' })[i]? = some a → (i = k ∧ a = { u with v := v', l := l', all := all' }) ∨ (i ≠ k ∧ us[i]? = some a) := fun i a ha => by
    rw [List.getElem?_set] at ha
    by_cases e : k = i
    · subst e; rw [if_pos rfl, if_pos hk] at ha; cases ha; exact .inl ⟨rfl, rfl⟩
    · rw [if_neg e] at ha; exact .inr ⟨fun e' => e e'.symm, ha⟩
  have fresh : ∀ (x : Value) {E size n : Nat} {xs : List Value}, w.ownsRow B E size x n xs → (x.ownBlock = none ∨ x.ownBlock ≠ u.v.ownBlock) → x.ownBlock = none ∨ x.ownBlock ≠ v'.ownBlock := fun x {E size n xs} hx hn => by
    rcases hn with h1 | h1
    · exact .inl h1
    · rcases hv with h2 | ⟨j, h2, h3⟩
      · exact .inr (fun e => h1 (e.trans h2))
      · exact .inr (fun e => by have := (hx.lt j (e.trans h2)).2; omega)
  refine ⟨by rw [List.length_set]; exact h.len, fun i a ha => ?_, fun i j a b hij ha hb => ?_, own_sturn h.row hr o2 a6 (h.ne k u hu), fun i a ha => ?_, ⟨o1, o2, o3, Nat.le_trans o4 hr.size⟩, h.lo.1, fun i a ha => ?_⟩
  · rcases key i a ha with ⟨rfl, rfl⟩ | ⟨hi, ha'⟩
    · exact ⟨hR, hm.ps_, (World.cell?_of_block (a := ⟨bs, i, none⟩) (hr.block bs (by omega) (by omega) o3 (hown bs o1))).trans hm.s_, .inr ⟨hS0, a1, hl, hI, a4, hS, a6, a7, a8⟩⟩
    · have ma := h.un i a ha'
      have apa := h.ap i k a u hi ha' hu
      refine ma.kept ⟨o1, o3⟩ (fun j hj hjm _ hj2 => hr.block j (by omega) ?_ hjm (hown j hj)) (ma.ref.sturn_other hr (by omega) a6 apa.2)
      rcases hj2 with rfl | rfl | ⟨s0, rfl⟩
      · omega
      · exact (apa.1 hS0).1
      · exact (apa.1 hS0).2 s0
  · rcases key i a ha with ⟨rfl, rfl⟩ | ⟨hi, ha'⟩
    · rcases key j b hb with ⟨rfl, rfl⟩ | ⟨hj, hb'⟩
      · exact (hij rfl).elim
      · have apb := h.ap i j u b hij hu hb'
        refine ⟨apb.1, ?_⟩
        have f := fresh b.v (h.un j b hb').ref.row (h.ap j i b u (fun e => hij e.symm) hb' hu).2
        show v'.ownBlock = none ∨ v'.ownBlock ≠ b.v.ownBlock
        cases hq : v'.ownBlock with
        | none => exact .inl rfl
        | some x => exact .inr (fun e => by
            rcases f with f | f
            · rw [f] at e; cases e
            · exact f (by rw [hq]; exact e.symm))
    · rcases key j b hb with ⟨rfl, rfl⟩ | ⟨hj, hb'⟩
      · have apa := h.ap i j a u hij ha' hu
        exact ⟨apa.1, fresh a.v (h.un i a ha').ref.row apa.2⟩
      · exact h.ap i j a b hij ha' hb'
  · rcases key i a ha with ⟨rfl, rfl⟩ | ⟨hi, ha'⟩
    · exact fresh vt h.row (h.ne i u hu)
    · exact h.ne i a ha'
  · rcases key i a ha with ⟨rfl, rfl⟩ | ⟨hi, ha'⟩
    · exact h.lo.2 i u hu
    · exact h.lo.2 i a ha'
theorem PM.app (h : PM n0 B bs bm w us vt told) {j c : Nat} {a b : Int} (ho : w'.ownsRow B 32 2 (.slice (some ⟨j, 0, none⟩) (told.length + 1) c) (told.length + 1) (hcells told ++ [.int .i64 a, .int .i64 b]))
    (hg : w.grownBy w' vt.ownBlock) (hj : vt.ownBlock = some j ∨ j = w.heap.size) : PM n0 B bs bm w' us (.slice (some ⟨j, 0, none⟩) (told.length + 1) c) (told ++ [(a, b)]) := by
  obtain ⟨o1, o2, o3, o4⟩ := h.ord
  have hown : ∀ j, j < B → some j ≠ vt.ownBlock := fun j hj e => own_ne h.row hj e.symm
  refine ⟨h.len, fun k u hu => ?_, h.ap, by rw [List.length_append, List.length_singleton, hcells_app]; exact ho, fun k u hu => .inr fun e => ?_, ⟨o1, o2, o3, Nat.le_trans o4 hg.size⟩, h.lo⟩
  · have hm := h.un k u hu
    refine hm.kept ⟨o1, o3⟩ (fun j hj _ _ _ => hg.block j (by omega) (hown j hj)) (hm.ref.grown hg (fun e => hown bm o2 e.symm) ?_)
    rcases h.ne k u hu with h1 | h1
    · rw [h1]; exact none_or _
    · exact .inr fun e => h1 e.symm
  · have e' : u.v.ownBlock = some j := e.symm
    rcases hj with hj | hj
    · rcases h.ne k u hu with h1 | h1
      · rw [h1] at hj; cases hj
      · exact h1 (hj.trans e'.symm)
    · have := ((h.un k u hu).ref.row.lt j e').2; omega
theorem PM.rdt (h : PM n0 B bs bm w us vt told) {A : Option Addr} {n c : Nat} (e : vt = .slice A n c) (hn : told.length = n) : Rd hcell 2 w w.heap.size A n told := by
  refine ⟨hn, fun h0 => ?_⟩
  obtain ⟨k, c', e', h1, h2⟩ := h.row.form (by omega)
  rw [e'] at e
  injection e with e1 e2 e3
  subst e1
  refine ⟨k, 0, rfl, h2, fun i x hx j u hu => ?_⟩
  have hr := h.row
  rw [e'] at hr
  have hi := (List.getElem?_eq_some_iff.1 hx).1
  obtain ⟨a0, a1⟩ := hcells_at told i x hx
  rw [Nat.zero_add]
  match j with
  | 0 => cases hu; rw [Nat.add_zero, hr.cellAt _ (by omega)]; exact a0
  | 1 => cases hu; rw [hr.cellAt _ (by omega)]; exact a1
  | j + 2 => simp [hcell] at hu
theorem PM.told_ (h : PM n0 B bs bm w us vt told) : ∃ A c, vt = .slice A told.length c := by
  rcases Nat.eq_zero_or_pos told.length with h0 | h0
  · rcases h.row.2 with ⟨hv, _⟩ | ⟨g, cap, cur, hv, _⟩
    · exact ⟨none, 0, by rw [hv, h0]⟩
    · exact ⟨_, _, hv⟩
  · obtain ⟨k, c, rfl, h1, h2⟩ := h.row.form h0
    exact ⟨_, _, rfl⟩

theorem PM.far2 (h : PM n0 B bs bm w us vt told) {b : Nat} (hB : B ≤ b) (hv : ∀ (k : Nat) (u : Un), us[k]? = some u → some b ≠ u.v.ownBlock) (ht : some b ≠ vt.ownBlock) (i : Nat) (x : Value) : PM n0 B bs bm (w.setCell ⟨b, i, none⟩ x) us vt told := by
  obtain ⟨o1, o2, o3, o4⟩ := h.ord
  refine ⟨h.len, fun k u hu => ?_, h.ap, ownsRow_setCell_other h.row (fun e => ht e.symm) x, h.ne, ⟨o1, o2, o3, by simpa using o4⟩, h.lo⟩
  exact (h.un k u hu).kept ⟨o1, o3⟩ (fun j hj _ _ _ => Below.heap_setCell w ⟨b, i, none⟩ x j (by show j ≠ b; omega)) ((h.un k u hu).ref.setNew (by omega) (hv k u hu) i x)
theorem PM.own (h : PM n0 B bs bm w us vt told) {b : Nat} (hb : w.heap.size ≤ b) : (∀ (k : Nat) (u : Un), us[k]? = some u → some b ≠ u.v.ownBlock) ∧ some b ≠ vt.ownBlock :=
  ⟨fun k u hu e => by have := ((h.un k u hu).ref.row.lt b e.symm).2; omega, fun e => by have := (h.row.lt b e.symm).2; omega⟩
/-- what all of them have -/
theorem Un.mem.inv (h : u.mem w B bs bm k) : RInv u.l u.all ∧ u.l.length = u.S ∧ u.S ≤ 4096 := by
  rcases h.alt with ⟨h0, h1, h2, _⟩ | ⟨_, h1, h2, h3, _⟩
  · rw [h1, h2, h0]; exact ⟨RInv.start 0, rfl, by decide⟩
  · exact ⟨h3, h2, h1⟩
theorem PM.listc (h : PM n0 B bs bm w us vt told) (hu : us[k]? = some u) (hm : u.all.length ≤ 1048576) (z : World) (hz : Below w.heap.size w z) :
    Calls Try.prog 23 #[.pointer (some ⟨bm, k * 2, none⟩)] z fun r w' => ∃ v', r = .returned v' ∧ Below z.heap.size z w' ∧ w'.ownsRow z.heap.size 82 4 v' (u.l.filterMap heldOf).length (hvs (u.l.filterMap heldOf)) := by
  obtain ⟨I, e, e2⟩ := (h.un k u hu).inv
  exact op_list I (by omega) (by omega) (by omega) z ((h.below hz).un k u hu).ref
theorem PM.lenc (h : PM n0 B bs bm w us vt told) (hu : us[k]? = some u) (z : World) (hz : Below w.heap.size w z) : Calls Try.prog 24 #[.pointer u.p] z (Gives (.int .i64 ((u.l.filter (·.full)).length : Int)) z) := by
  have m := (h.below hz).un k u hu
  rcases m.alt with ⟨h0, _, h2, _⟩ | ⟨h0, h1, h2, h3, h4, h5, _⟩
  · rw [h2]; exact len_void u.p z (m.vd h0)
  · rw [h4]; exact len_s u.ps u.g u.l (by omega) (by omega) h3.strs z h5
theorem PM.roomc (h : PM n0 B bs bm w us vt told) (hu : us[k]? = some u) (z : World) (hz : Below w.heap.size w z) : Calls Try.prog 25 #[.pointer u.p] z (Gives (.int .i64 ((u.S : Int) - ((u.l.filter (·.full)).length : Int))) z) := by
  have m := (h.below hz).un k u hu
  rcases m.alt with ⟨h0, _, h2, _⟩ | ⟨h0, h1, h2, h3, h4, h5, _⟩
  · rw [h2, h0]; exact room_void u.p z (m.vd h0)
  · rw [h4, ← h2]; exact room_s u.ps u.g u.l (by omega) (by omega) h3.strs z h5
theorem PM.hasc (h : PM n0 B bs bm w us vt told) (hu : us[k]? = some u) (z : World) (hz : Below w.heap.size w z) {b0 : Nat} {v' : Value} (hv : z.ownsRow b0 82 4 v' (u.l.filterMap heldOf).length (hvs (u.l.filterMap heldOf))) : Calls Try.prog 26 #[.pointer u.p, v'] z (Gives (.bool true) z) := by
  have m := (h.below hz).un k u hu
  rcases m.alt with ⟨h0, _, h2, _⟩ | ⟨h0, h1, h2, h3, h4, h5, _⟩
  · rw [h2] at hv; exact has_void (m.vd h0) hv
  · rw [h4]; exact has_slab h3.strs (by omega) (by omega) h5 hv
structure PEnd (n0 B bs bm : Nat) (w0 W z w' : World) (us : List Un) (k : Nat) (u u' : Un) (vt : Value) (told : List (Int × Int)) : Prop where
  M : PM n0 B bs bm w' (us.set k u') vt told
  sS : u'.S = u.S
  pp : u'.p = u.p
  al : u'.all.length ≤ u.all.length + 1
  b : Below n0 w0 w'
  sz : W.heap.size ≤ w'.heap.size
  old : ∀ b, B ≤ b → some b ≠ u.v.ownBlock → b < z.heap.size → w'.heap[b]? = z.heap[b]?
  ne : W.heap.size < z.heap.size → ∀ (i : Nat) (a : Un), (us.set k u')[i]? = some a → some W.heap.size ≠ a.v.ownBlock
  net : some W.heap.size ≠ vt.ownBlock ∧ B ≤ W.heap.size
theorem PM.stepc {w0 : World} {W : World} (h : PM n0 B bs bm W us vt told) (hu : us[k]? = some u) (hm : u.all.length ≤ 1048576) (hb : Below n0 w0 W) (hn : n0 ≤ W.heap.size) (hnB : n0 ≤ B) (op : OpV) {A7 : Option Addr} {TT c7 : Nat} (e : vt = .slice A7 TT c7) (hT : told.length = TT) (hTm : TT ≤ 9223372036854775807) (z : World) (hz : Below W.heap.size W z) :
    Calls Try.prog 22 #[.pointer u.p, .pointer (some ⟨bm, k * 2, none⟩), .agg #[.int .i64 op.who, .int .i64 op.kind, .int .i64 op.n, .int .i64 op.hs, .int .i64 op.hg, .string op.x], .slice A7 TT c7, .bool (decide (0 < u.S))] z (fun r w' => ∃ (hs hg : Int) (u' : Un), r = .returned (.tuple #[.agg #[.int .i64 hs, .int .i64 hg], .bool true]) ∧ PEnd n0 B bs bm w0 W z w' us k u u' vt told) := by
  have hk : k < us.length := (List.getElem?_eq_some_iff.1 hu).1
  have hz' := h.below hz
  have m := hz'.un k u hu
  have szz := hz.size
  obtain ⟨o1, o2, o3, o4⟩ := h.ord
  have hnet : some W.heap.size ≠ vt.ownBlock ∧ B ≤ W.heap.size := ⟨(h.own (Nat.le_refl _)).2, o4⟩
  rcases m.alt with ⟨h0, a1, a2, a3⟩ | ⟨h0, a1, a2, a3, a4, a5, a6, a7, a8⟩
  · have hd : decide (0 < u.S) = false := decide_eq_false (by omega)
    have hR := m.ref
    rw [a1, h0] at hR
    rw [hd]
    refine (step_void B bm (k * 2) u.v op A7 TT c7 told z u.p (m.vd h0) hR (hz'.rdt e hT) hTm).mono ?_
    rintro r w' ⟨hs, hg, rfl, hbw, _⟩
    have e2 : us.set k u = us := by
      apply List.ext_getElem?
      intro i
      rw [List.getElem?_set]
      split
      · rename_i e; subst e; rw [hu]
      · rfl
    refine ⟨hs, hg, u, rfl, by rw [e2]; exact hz'.below hbw, rfl, rfl, Nat.le_succ _, (hb.trans (hz.mono hn)).trans (hbw.mono (Nat.le_trans hn szz)), Nat.le_trans szz hbw.size, fun b _ _ hlt => hbw.block _ hlt, ?_, hnet⟩
    rw [e2]
    exact fun _ => (h.own (Nat.le_refl _)).1
  · have hd : decide (0 < u.S) = true := decide_eq_true h0
    rw [hd, a4]
    refine (step_ok B u.ps u.g bm (k * 2) u.v (u.S : Int) u.l u.all op A7 TT c7 told z a3 (by omega) (by omega) (by omega) hm a5 m.ref ⟨m.ps_.1, a6, m.ps_.2, a7⟩ (hz'.rdt e hT) hTm).mono ?_
    rintro r w' ⟨hs, hg, l3, all3, v3, rfl, I3, len3, lenA, hS3, hR3, hST, hv3⟩
    have hvl : ∀ j, u.v.ownBlock = some j → B ≤ j ∧ j < W.heap.size := fun j hj => (h.un k u hu).ref.row.lt j hj
    have hvne : some W.heap.size ≠ u.v.ownBlock := fun e => by have := (hvl _ e.symm).2; omega
    have lo := h.lo
    have lok := lo.2 k u hu
    refine ⟨hs, hg, _, rfl, hz'.step hu h0 hST (by omega) I3 hS3 hR3 hv3, rfl, rfl, lenA, ?_, Nat.le_trans szz hST.size, ?_, ?_, hnet⟩
    · exact Below.sturn (hb.trans (hz.mono hn)) hST (Nat.le_trans hn szz) lok lo.1 (fun j hj => by have := (hvl j hj).1; omega)
    · exact fun b hb1 hb2 hlt => hST.block _ hlt (by omega) (by omega) hb2
    · intro hlt i a ha e
      rw [List.getElem?_set] at ha
      split at ha
      · cases ha
        rcases hv3 with h1 | ⟨j, h1, h2⟩
        · exact hvne (e.trans h1)
        · have e' : some W.heap.size = v3.ownBlock := e
          rw [h1] at e'; injection e' with e'; omega
      · exact (h.own (Nat.le_refl _)).1 i a ha e

end
end Go.Proofs.Ytpnegofmebfcgaa
