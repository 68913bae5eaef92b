/- Slabs: writing parts of a slot; worlds grown but for one block. -/
import Derived.Test.YtpnegofmebfcgaaS1
import Derived.Test.YtpnegofmebfcgaaQ
namespace Go.Proofs.Ytpnegofmebfcgaa
open Go.RowKit

theorem below_grown {w w' : World} {row : Option Nat} (h : Below w.heap.size w w') : w.grownBy w' row :=
  ⟨h.os, h.tape, h.output, h.size, fun k hk _ => h.block k hk⟩
theorem grownBy_set (w : World) (g i : Nat) (v : Value) : w.grownBy (w.setCell ⟨g, i, none⟩ v) (some g) :=
  ⟨rfl, rfl, rfl, by simp, fun k _ hne => Below.heap_setCell w ⟨g, i, none⟩ v k (fun e => hne (by rw [e]))⟩

theorem flat_drop : ∀ (l : List SL) (i : Nat) (s : SL) (z : Value), l[i]? = some s →
    flat (l.set i { s with full := false, x := z }) = ((flat l).set (i * 4 + 3) z).set (i * 4 + 2) (.bool false)
  | [], i, s, z, h => by simp at h
  | q :: r, 0, s, z, h => by simp at h; subst h; rfl
  | q :: r, i + 1, s, z, h => by
    have := flat_drop r i s z (by simpa using h)
    have e : (i + 1) * 4 = i * 4 + 1 + 1 + 1 + 1 := by omega
    rw [e]
    simp [flat, this]
theorem flat_x : ∀ (l : List SL) (i : Nat) (s : SL) (z : Value), l[i]? = some s → flat (l.set i { s with x := z }) = (flat l).set (i * 4 + 3) z
  | [], i, s, z, h => by simp at h
  | q :: r, 0, s, z, h => by simp at h; subst h; rfl
  | q :: r, i + 1, s, z, h => by
    have := flat_x r i s z (by simpa using h)
    have e : (i + 1) * 4 = i * 4 + 1 + 1 + 1 + 1 := by omega
    rw [e]
    simp [flat, this]

section
variable {T : TypeId} {w : World} {ps g : Nat} {l : List SL}
theorem SlabAt.ptr_set (h : SlabAt T w ps g l) (u : World) (k : Nat) (v : Value) : (u.setCell ⟨g, k, none⟩ v).cell? ⟨ps, 0, none⟩ = u.cell? ⟨ps, 0, none⟩ :=
  World.cell?_setCell_other u _ _ v (fun e => h.ne (by injection e with e1; exact e1.symm))
theorem SlabAt.drop (h : SlabAt T w ps g l) {i : Nat} {s : SL} (hs : l[i]? = some s) (z : Value) :
    SlabAt T ((w.setCell ⟨g, i * 4 + 3, none⟩ z).setCell ⟨g, i * 4 + 2, none⟩ (.bool false)) ps g (l.set i { s with full := false, x := z }) := by
  have hb := h.blk
  refine ⟨?_, ?_, h.ne⟩
  · rw [h.ptr_set, h.ptr_set, h.ptr, List.length_set]
  · rw [flat_drop l i s z hs]
    simp [World.setCell, Array.getElem?_modify, hb]
theorem SlabAt.setx (h : SlabAt T w ps g l) {i : Nat} {s : SL} (hs : l[i]? = some s) (z : Value) :
    SlabAt T (w.setCell ⟨g, i * 4 + 3, none⟩ z) ps g (l.set i { s with x := z }) := by
  have hb := h.blk
  refine ⟨?_, ?_, h.ne⟩
  · rw [h.ptr_set, h.ptr, List.length_set]
  · rw [flat_x l i s z hs]
    simp [World.setCell, Array.getElem?_modify, hb]
theorem SlabAt.far (h : SlabAt T w ps g l) {B : Nat} (h1 : B ≠ ps) (h2 : g ≠ B) (i : Nat) (v : Value) : SlabAt T (w.setCell ⟨B, i, none⟩ v) ps g l :=
  ⟨(World.cell?_setCell_other w _ _ v (fun e => h1 (by injection e with e1))).trans h.ptr, (Below.heap_setCell w ⟨B, i, none⟩ v g h2).trans h.blk, h.ne⟩
end
theorem grownBy_new {w u : World} {row : Option Nat} (h : w.grownBy u row) {B : Nat} (hB : w.heap.size ≤ B) (i : Nat) (v : Value) : w.grownBy (u.setCell ⟨B, i, none⟩ v) row :=
  ⟨h.os, h.tape, h.output, by simpa using h.size, fun k hk hne => (Below.heap_setCell u ⟨B, i, none⟩ v k (by show k ≠ B; omega)).trans (h.block k hk hne)⟩
end Go.Proofs.Ytpnegofmebfcgaa
