/- Slabs as lists of slots: a block of slots that is known whole. -/
import Derived.Below
import Derived.Laws.OwnMore
import Derived.Maps.AppendAt
import Derived.WalkKit
import Derived.WalkSpells
namespace Go.Proofs.Ytpnegofmebfcgaa
open Go.RowKit

/-- what lies in a slot: its number as written there, the generation, whether it is full, the thing -/
structure SL where
  slot : Int
  gen : Int
  full : Bool
  x : Value

def SL.cells (s : SL) : List Value := [.int .i64 s.slot, .int .i64 s.gen, .bool s.full, s.x]
def flat : List SL → List Value
  | [] => []
  | s :: r => .int .i64 s.slot :: .int .i64 s.gen :: .bool s.full :: s.x :: flat r

theorem flat_length : ∀ l : List SL, (flat l).length = l.length * 4
  | [] => rfl
  | _ :: r => by simp only [flat, List.length_cons, flat_length r]; omega
theorem flat_get : ∀ (l : List SL) (i : Nat) (s : SL), l[i]? = some s →
    (flat l)[i * 4]? = some (.int .i64 s.slot) ∧ (flat l)[i * 4 + 1]? = some (.int .i64 s.gen) ∧ (flat l)[i * 4 + 2]? = some (.bool s.full) ∧ (flat l)[i * 4 + 3]? = some s.x
  | [], i, s, h => by simp at h
  | q :: r, 0, s, h => by simp at h; subst h; exact ⟨rfl, rfl, rfl, rfl⟩
  | q :: r, i + 1, s, h => by
    have := flat_get r i s (by simpa using h)
    have e : (i + 1) * 4 = i * 4 + 1 + 1 + 1 + 1 := by omega
    rw [e]
    simpa [flat] using this
theorem flat_set : ∀ (l : List SL) (i : Nat) (s t : SL), l[i]? = some s →
    flat (l.set i t) = ((((flat l).set (i * 4) (.int .i64 t.slot)).set (i * 4 + 1) (.int .i64 t.gen)).set (i * 4 + 2) (.bool t.full)).set (i * 4 + 3) t.x
  | [], i, s, t, h => by simp at h
  | q :: r, 0, s, t, h => rfl
  | q :: r, i + 1, s, t, h => by
    have := flat_set r i s t (by simpa using h)
    have e : (i + 1) * 4 = i * 4 + 1 + 1 + 1 + 1 := by omega
    rw [e]
    simp [flat, this]

/-- pointer block ps holds the slice of block g, which is just the slots l (element type T) -/
structure SlabAt (T : TypeId) (w : World) (ps g : Nat) (l : List SL) : Prop where
  ptr : w.cell? ⟨ps, 0, none⟩ = some (.slice (some ⟨g, 0, none⟩) l.length l.length)
  blk : w.heap[g]? = some (.cells (flat l).toArray T (0, 0))
  ne : ps ≠ g

section
variable {T : TypeId} {w w' : World} {ps g : Nat} {l : List SL}
theorem SlabAt.cell (h : SlabAt T w ps g l) (i : Nat) : w.cell? ⟨g, i, none⟩ = (flat l)[i]? := by
  rw [cell_of_row w g i _ T (0, 0) h.blk]; simp
theorem SlabAt.at (h : SlabAt T w ps g l) {i : Nat} {s : SL} (hs : l[i]? = some s) :
    w.cell? ⟨g, i * 4, none⟩ = some (.int .i64 s.slot) ∧ w.cell? ⟨g, i * 4 + 1, none⟩ = some (.int .i64 s.gen) ∧ w.cell? ⟨g, i * 4 + 2, none⟩ = some (.bool s.full) ∧ w.cell? ⟨g, i * 4 + 3, none⟩ = some s.x := by
  obtain ⟨a, b, c, d⟩ := flat_get l i s hs
  rw [h.cell, h.cell, h.cell, h.cell]
  exact ⟨a, b, c, d⟩
theorem SlabAt.frozen (h : SlabAt T w ps g l) (i : Nat) : w.frozen? ⟨g, i, none⟩ = false := by
  have := h.blk
  simp [World.frozen?, this]
theorem SlabAt.gl (h : SlabAt T w ps g l) : g < w.heap.size := by
  rcases Nat.lt_or_ge g w.heap.size with hlt | hge
  · exact hlt
  · have := h.blk; rw [Array.getElem?_eq_none hge] at this; cases this
theorem SlabAt.pl (h : SlabAt T w ps g l) : ps < w.heap.size := World.block_lt_of_cell? w _ h.ptr
theorem SlabAt.below (h : SlabAt T w ps g l) (hb : Below w.heap.size w w') : SlabAt T w' ps g l :=
  ⟨(hb.cell (p := ⟨ps, 0, none⟩) h.pl).trans h.ptr, (hb.block g h.gl).trans h.blk, h.ne⟩
theorem SlabAt.alloc (h : SlabAt T w ps g l) (o : Obj) : SlabAt T (w.alloc o) ps g l := h.below ((Below.refl w.heap.size w).alloc (Nat.le_refl _) o)
/-- one slot written whole -/
theorem SlabAt.put (h : SlabAt T w ps g l) {i : Nat} {s : SL} (hs : l[i]? = some s) (t : SL) :
    SlabAt T ((((w.setCell ⟨g, i * 4, none⟩ (.int .i64 t.slot)).setCell ⟨g, i * 4 + 1, none⟩ (.int .i64 t.gen)).setCell ⟨g, i * 4 + 2, none⟩ (.bool t.full)).setCell ⟨g, i * 4 + 3, none⟩ t.x) ps g (l.set i t) := by
  have hb := h.blk
  refine ⟨?_, ?_, h.ne⟩
  · have e : ∀ (u : World) (k : Nat) (v : Value), (u.setCell ⟨g, k, none⟩ v).cell? ⟨ps, 0, none⟩ = u.cell? ⟨ps, 0, none⟩ := fun u k v => World.cell?_setCell_other u _ _ v (fun e => h.ne (by injection e with e1; exact e1.symm))
    rw [e, e, e, e, h.ptr, List.length_set]
  · rw [flat_set l i s t hs]
    simp [World.setCell, Array.getElem?_modify, hb]
end
end Go.Proofs.Ytpnegofmebfcgaa
