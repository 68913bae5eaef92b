/- Memory of a law that keeps handles and marks of its own beside a slab. -/
import Derived.Test.YtpnegofmebfcgaaS3
import Derived.OneCell
namespace Go.Proofs.Ytpnegofmebfcgaa
open Go.RowKit

def hcells : List (Int × Int) → List Value
  | [] => []
  | p :: r => .int .i64 p.1 :: .int .i64 p.2 :: hcells r
theorem hcells_app (a b : List (Int × Int)) : hcells (a ++ b) = hcells a ++ hcells b := by
  induction a with
  | nil => rfl
  | cons p r ih => simp [hcells, ih]
theorem hcells_len : ∀ a : List (Int × Int), (hcells a).length = a.length * 2
  | [] => rfl
  | _ :: r => by simp only [hcells, List.length_cons, hcells_len r]; omega
theorem hcells_at : ∀ (a : List (Int × Int)) (i : Nat) (p : Int × Int), a[i]? = some p → (hcells a)[i * 2]? = some (.int .i64 p.1) ∧ (hcells a)[i * 2 + 1]? = some (.int .i64 p.2)
  | [], i, p, h => by simp at h
  | q :: r, 0, p, h => by simp at h; subst h; exact ⟨rfl, rfl⟩
  | q :: r, i + 1, p, h => by
    have := hcells_at r i p (by simpa using h)
    have e : (i + 1) * 2 = i * 2 + 1 + 1 := by omega
    rw [e]
    simpa [hcells] using this

theorem SlabAt.grown {T : TypeId} {w w' : World} {ps g : Nat} {l : List SL} {row : Option Nat} (h : SlabAt T w ps g l) (hg : w.grownBy w' row) (h1 : row ≠ some ps) (h2 : row ≠ some g) : SlabAt T w' ps g l :=
  ⟨(hg.cell_far ⟨ps, 0, none⟩ h.pl (fun e => h1 e.symm)).trans h.ptr, (hg.block g h.gl (fun e => h2 e.symm)).trans h.blk, h.ne⟩

/-- a slab of elements T, the handles told (v7), the marks (v8) -/
structure Mem (T : TypeId) (B ps g : Nat) (w : World) (v7 v8 : Value) (l : List SL) (told : List (Int × Int)) (here : List Bool) : Prop where
  slab : SlabAt T w ps g l
  r7 : w.ownsRow B 32 2 v7 told.length (hcells told)
  r8 : w.ownsRow B 4 1 v8 here.length (here.map Value.bool)
  ne : v7.ownBlock = none ∨ v7.ownBlock ≠ v8.ownBlock
  low : ps < B ∧ g < B ∧ B ≤ w.heap.size

section
variable {T : TypeId} {B ps g : Nat} {w w' : World} {v7 v8 : Value} {l l' : List SL} {told : List (Int × Int)} {here : List Bool}
theorem own_ne {w : World} {B : Nat} {E : TypeId} {size n : Nat} {v : Value} {xs : List Value} (h : w.ownsRow B E size v n xs) {g : Nat} (hg : g < B) : v.ownBlock ≠ some g := fun e => by
  have := (h.lt g e).1; omega
theorem Mem.turn (h : Mem T B ps g w v7 v8 l told here) (hg : w.grownBy w' (some g)) (hS : SlabAt T w' ps g l') : Mem T B ps g w' v7 v8 l' told here :=
  ⟨hS, h.r7.kept hg (.inr (own_ne h.r7 h.low.2.1)), h.r8.kept hg (.inr (own_ne h.r8 h.low.2.1)), h.ne, h.low.1, h.low.2.1, Nat.le_trans h.low.2.2 hg.size⟩
theorem none_or {α : Type} (o : Option α) : o = none ∨ o ≠ none := by cases o <;> simp
theorem Mem.grown (h : Mem T B ps g w v7 v8 l told here) (hg : w.grownBy w' none) : Mem T B ps g w' v7 v8 l told here :=
  ⟨h.slab.grown hg (by simp) (by simp), h.r7.kept hg (none_or _), h.r8.kept hg (none_or _), h.ne, h.low.1, h.low.2.1, Nat.le_trans h.low.2.2 hg.size⟩
theorem Mem.alloc (h : Mem T B ps g w v7 v8 l told here) (o : Obj) : Mem T B ps g (w.alloc o) v7 v8 l told here := h.grown (World.grownBy_alloc w o none)
theorem Mem.below (h : Mem T B ps g w v7 v8 l told here) (hb : Below w.heap.size w w') : Mem T B ps g w' v7 v8 l told here := h.grown (below_grown hb)
theorem Mem.app7 (h : Mem T B ps g w v7 v8 l told here) {k c : Nat} {a b : Int} (ho : w'.ownsRow B 32 2 (.slice (some ⟨k, 0, none⟩) (told.length + 1) c) (told.length + 1) (hcells told ++ [.int .i64 a, .int .i64 b]))
    (hg : w.grownBy w' v7.ownBlock) (hk : v7.ownBlock = some k ∨ k = w.heap.size) : Mem T B ps g w' (.slice (some ⟨k, 0, none⟩) (told.length + 1) c) v8 l (told ++ [(a, b)]) here := by
  have hne : v8.ownBlock = none ∨ v8.ownBlock ≠ v7.ownBlock := by
    rcases h.ne with h1 | h1
    · rw [h1]; exact none_or _
    · exact .inr fun e => h1 e.symm
  refine ⟨h.slab.grown hg (own_ne h.r7 h.low.1) (own_ne h.r7 h.low.2.1), ?_, h.r8.kept hg hne, .inr fun e => ?_, h.low.1, h.low.2.1, Nat.le_trans h.low.2.2 hg.size⟩
  · rw [List.length_append, List.length_singleton, hcells_app]; exact ho
  · have e' : v8.ownBlock = some k := e.symm
    rcases hk with hk | hk
    · rcases h.ne with h1 | h1
      · rw [h1] at hk; cases hk
      · exact h1 (hk.trans e'.symm)
    · have := (h.r8.lt k e').2; omega
theorem Mem.app8 (h : Mem T B ps g w v7 v8 l told here) {k c : Nat} {b : Bool} (ho : w'.ownsRow B 4 1 (.slice (some ⟨k, 0, none⟩) (here.length + 1) c) (here.length + 1) (here.map Value.bool ++ [.bool b]))
    (hg : w.grownBy w' v8.ownBlock) (hk : v8.ownBlock = some k ∨ k = w.heap.size) : Mem T B ps g w' v7 (.slice (some ⟨k, 0, none⟩) (here.length + 1) c) l told (here ++ [b]) := by
  have hne : v7.ownBlock = none ∨ v7.ownBlock ≠ v8.ownBlock := h.ne
  refine ⟨h.slab.grown hg (own_ne h.r8 h.low.1) (own_ne h.r8 h.low.2.1), h.r7.kept hg hne, ?_, ?_, h.low.1, h.low.2.1, Nat.le_trans h.low.2.2 hg.size⟩
  · rw [List.length_append, List.length_singleton, List.map_append]; exact ho
  · rcases hne with h1 | h1
    · exact .inl h1
    · refine .inr fun e => ?_
      have e' : v7.ownBlock = some k := e
      rcases hk with hk | hk
      · exact h1 (e'.trans hk.symm)
      · have := (h.r7.lt k e').2; omega
theorem Mem.at7 (h : Mem T B ps g w v7 v8 l told here) {i : Nat} {p : Int × Int} (hp : told[i]? = some p) : ∃ k c, v7 = .slice (some ⟨k, 0, none⟩) told.length c ∧ w.cell? ⟨k, i * 2, none⟩ = some (.int .i64 p.1) ∧ w.cell? ⟨k, i * 2 + 1, none⟩ = some (.int .i64 p.2) ∧ k < w.heap.size ∧ k ≠ g := by
  have hi : i < told.length := (List.getElem?_eq_some_iff.1 hp).1
  obtain ⟨k, c, rfl, h1, h2⟩ := h.r7.form (by omega)
  obtain ⟨c0, c1⟩ := hcells_at _ _ _ hp
  refine ⟨k, c, rfl, ?_, ?_, h2, by have := h.low.2.1; omega⟩
  · rw [h.r7.cellAt _ (by omega)]; exact c0
  · rw [h.r7.cellAt _ (by omega)]; exact c1
theorem Mem.at8 (h : Mem T B ps g w v7 v8 l told here) {i : Nat} {b : Bool} (hp : here[i]? = some b) : ∃ k c, v8 = .slice (some ⟨k, 0, none⟩) here.length c ∧ w.cell? ⟨k, i, none⟩ = some (.bool b) ∧ w.frozen? ⟨k, i, none⟩ = false ∧ k < w.heap.size ∧ k ≠ g := by
  have hi : i < here.length := (List.getElem?_eq_some_iff.1 hp).1
  obtain ⟨k, c, rfl, h1, h2⟩ := h.r8.form (by omega)
  refine ⟨k, c, rfl, ?_, h.r8.frozenAt i, h2, by have := h.low.2.1; omega⟩
  · rw [h.r8.cellAt _ (by omega), List.getElem?_map, hp]; rfl
theorem Mem.len7 (h : Mem T B ps g w v7 v8 l told here) : ∃ A c, v7 = .slice A told.length c ∧ (A = none → told.length = 0) := by
  rcases Nat.eq_zero_or_pos told.length with h0 | h0
  · rcases h.r7.2 with ⟨hv, _⟩ | ⟨g, cap, cur, hv, _⟩
    · exact ⟨none, 0, by rw [hv, h0], fun _ => h0⟩
    · exact ⟨_, _, hv, fun _ => h0⟩
  · obtain ⟨k, c, rfl, h1, h2⟩ := h.r7.form h0
    exact ⟨_, _, rfl, fun e => by cases e⟩
theorem Mem.store8 {k c : Nat} (h : Mem T B ps g w v7 (.slice (some ⟨k, 0, none⟩) here.length c) l told here) (i : Nat) (b : Bool) : Mem T B ps g (w.setCell ⟨k, i, none⟩ (.bool b)) v7 (.slice (some ⟨k, 0, none⟩) here.length c) l told (here.set i b) := by
  obtain ⟨h1, h2⟩ := h.r8.stored i (.bool b)
  refine ⟨h.slab.grown h2 (own_ne h.r8 h.low.1) (own_ne h.r8 h.low.2.1), h.r7.kept h2 h.ne, ?_, h.ne, h.low.1, h.low.2.1, by simpa using h.low.2.2⟩
  rw [List.length_set, List.map_set]; exact h1
theorem Mem.c8 {k c : Nat} (h : Mem T B ps g w v7 (.slice (some ⟨k, 0, none⟩) here.length c) l told here) {i : Nat} {b : Bool} (hp : here[i]? = some b) : w.cell? ⟨k, i, none⟩ = some (.bool b) ∧ w.frozen? ⟨k, i, none⟩ = false := by
  obtain ⟨k', c', e, h1, h2, _⟩ := h.at8 hp
  injection e with e _ _
  injection e with e
  injection e with e
  subst e
  exact ⟨h1, h2⟩
theorem Mem.c7 {k c : Nat} (h : Mem T B ps g w (.slice (some ⟨k, 0, none⟩) told.length c) v8 l told here) {i : Nat} {p : Int × Int} (hp : told[i]? = some p) : w.cell? ⟨k, i * 2, none⟩ = some (.int .i64 p.1) ∧ w.cell? ⟨k, i * 2 + 1, none⟩ = some (.int .i64 p.2) := by
  obtain ⟨k', c', e, h1, h2, _⟩ := h.at7 hp
  injection e with e _ _
  injection e with e
  injection e with e
  subst e
  exact ⟨h1, h2⟩
theorem Mem.bl8 {k c : Nat} (h : Mem T B ps g w v7 (.slice (some ⟨k, 0, none⟩) here.length c) l told here) : B ≤ k := (h.r8.lt k rfl).1
end
end Go.Proofs.Ytpnegofmebfcgaa
