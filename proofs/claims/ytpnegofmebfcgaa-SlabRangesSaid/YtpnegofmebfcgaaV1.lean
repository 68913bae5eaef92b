/- Memory of the law that ranges over a slab while it is changed: boxes, the slab, the reference's, the handles told. -/
import Derived.Test.YtpnegofmebfcgaaT1
import Derived.Test.YtpnegofmebfcgaaP2
namespace Go.Proofs.Ytpnegofmebfcgaa
open Go.RowKit Go.Shelf
set_option linter.unusedVariables false

structure RM (n0 B b9 bm bE b14 : Nat) (during : Value) (w : World) (x14 v14 v : Value) (S : Nat) (l : List SL) (all : List HV) (told : List (Int × Int)) : Prop where
  slab : SlabAt 111 w (n0 + 3) (n0 + 2) l
  ref : RefAt B w bm 0 v S all
  b7 : Boxed w n0 52 during
  b8 : Boxed w (n0 + 1) 4 (.bool false)
  b9_ : Boxed w b9 53 (.pointer (some ⟨n0 + 3, 0, none⟩))
  bE_ : Boxed w bE 53 (.pointer (some ⟨n0 + 3, 0, none⟩))
  b14_ : Boxed w b14 29 x14
  r14 : w.ownsRow B 32 2 v14 told.length (hcells told)
  ne : v14.ownBlock = none ∨ v14.ownBlock ≠ v.ownBlock
  ord : n0 + 3 < b9 ∧ b9 < bm ∧ bm < bE ∧ bE < b14 ∧ b14 < B ∧ B ≤ w.heap.size

section
variable {n0 B b9 bm bE b14 : Nat} {during : Value} {w w' : World} {x14 v14 v : Value} {S : Nat} {l l' : List SL} {all all' : List HV} {told : List (Int × Int)}
theorem RM.boxes (h : RM n0 B b9 bm bE b14 during w x14 v14 v S l all told) (hb : ∀ k, k < B → k ≠ n0 + 2 → k ≠ bm → k ≠ n0 + 3 → w'.heap[k]? = w.heap[k]?) :
    Boxed w' n0 52 during ∧ Boxed w' (n0 + 1) 4 (.bool false) ∧ Boxed w' b9 53 (.pointer (some ⟨n0 + 3, 0, none⟩)) ∧ Boxed w' bE 53 (.pointer (some ⟨n0 + 3, 0, none⟩)) ∧ Boxed w' b14 29 x14 := by
  obtain ⟨o1, o2, o3, o4, o5, o6⟩ := h.ord
  exact ⟨(hb _ (by omega) (by omega) (by omega) (by omega)).trans h.b7, (hb _ (by omega) (by omega) (by omega) (by omega)).trans h.b8, (hb _ (by omega) (by omega) (by omega) (by omega)).trans h.b9_, (hb _ (by omega) (by omega) (by omega) (by omega)).trans h.bE_, (hb _ (by omega) (by omega) (by omega) (by omega)).trans h.b14_⟩
theorem RM.slabTurn (h : RM n0 B b9 bm bE b14 during w x14 v14 v S l all told) (hg : w.grownBy w' (some (n0 + 2))) (hS : SlabAt 111 w' (n0 + 3) (n0 + 2) l') : RM n0 B b9 bm bE b14 during w' x14 v14 v S l' all told := by
  obtain ⟨o1, o2, o3, o4, o5, o6⟩ := h.ord
  obtain ⟨a, b, c, d, e⟩ := h.boxes (w' := w') (fun k hk h1 _ _ => hg.block k (by omega) (fun e => h1 (by injection e)))
  exact ⟨hS, h.ref.turn hg (by omega) (by omega), a, b, c, d, e, h.r14.kept hg (.inr (own_ne h.r14 (by omega))), h.ne, o1, o2, o3, o4, o5, Nat.le_trans o6 hg.size⟩
theorem RM.below (h : RM n0 B b9 bm bE b14 during w x14 v14 v S l all told) (hb : Below w.heap.size w w') : RM n0 B b9 bm bE b14 during w' x14 v14 v S l all told := by
  obtain ⟨o1, o2, o3, o4, o5, o6⟩ := h.ord
  obtain ⟨a, b, c, d, e⟩ := h.boxes (w' := w') (fun k hk _ _ _ => hb.block k (by omega))
  exact ⟨h.slab.below hb, h.ref.below hb, a, b, c, d, e, h.r14.kept (below_grown (row := none) hb) (none_or _), h.ne, o1, o2, o3, o4, o5, Nat.le_trans o6 hb.size⟩
theorem RM.alloc (h : RM n0 B b9 bm bE b14 during w x14 v14 v S l all told) (ob : Obj) : RM n0 B b9 bm bE b14 during (w.alloc ob) x14 v14 v S l all told := h.below ((Below.refl w.heap.size w).alloc (Nat.le_refl _) ob)
/-- a row of the call's own that is not the reference's stays -/
theorem own_rturn {w w' : World} {B : Nat} {E : TypeId} {size n : Nat} {u : Value} {xs : List Value} {bm o : Nat} {own : Option Nat} (h : w.ownsRow B E size u n xs) (hr : RTurn bm o own w w') (hb : bm < B) (hne : u.ownBlock = none ∨ u.ownBlock ≠ own) : w'.ownsRow B E size u n xs := by
  refine ⟨h.1, ?_⟩
  rcases h.2 with h0 | ⟨k, cap, cur, rfl, hk, hh, rest⟩
  · exact .inl h0
  · refine .inr ⟨k, cap, cur, rfl, hk, ?_, rest⟩
    rw [hr.block k (Array.getElem?_eq_some_iff.1 hh).1 (by omega) (by
      rcases hne with h1 | h1
      · cases h1
      · exact h1)]
    exact hh
theorem RM.refTurn (h : RM n0 B b9 bm bE b14 during w x14 v14 v S l all told) {v' : Value} (hr : RTurn bm 0 v.ownBlock w w') (hR : RefAt B w' bm 0 v' S all') (hv : v'.ownBlock = v.ownBlock ∨ ∃ k, v'.ownBlock = some k ∧ w.heap.size ≤ k) : RM n0 B b9 bm bE b14 during w' x14 v14 v' S l all' told := by
  obtain ⟨o1, o2, o3, o4, o5, o6⟩ := h.ord
  have hown : ∀ k, k < B → some k ≠ v.ownBlock := fun k hk e => own_ne h.ref.row hk e.symm
  obtain ⟨a, b, c, d, e⟩ := h.boxes (w' := w') (fun k hk _ h1 _ => hr.block k (by omega) h1 (hown k hk))
  refine ⟨h.slab.rturn hr (by omega) (by omega) (hown _ (by omega)) (hown _ (by omega)), hR, a, b, c, d, e, own_rturn h.r14 hr (by omega) h.ne, ?_, o1, o2, o3, o4, o5, Nat.le_trans o6 hr.size⟩
  rcases h.ne with h1 | h1
  · exact .inl h1
  · rcases hv with h2 | ⟨k, h2, h3⟩
    · exact .inr (fun e => h1 (e.trans h2))
    · refine .inr (fun e => ?_)
      have := (h.r14.lt k (e.trans h2)).2
      omega
/-- both turned by a step -/
theorem RM.stepTurn (h : RM n0 B b9 bm bE b14 during w x14 v14 v S l all told) {v' : Value} (hr : STurn (n0 + 2) bm 0 v.ownBlock w w') (hS : SlabAt 111 w' (n0 + 3) (n0 + 2) l') (hR : RefAt B w' bm 0 v' S all') (hv : v'.ownBlock = v.ownBlock ∨ ∃ k, v'.ownBlock = some k ∧ w.heap.size ≤ k) : RM n0 B b9 bm bE b14 during w' x14 v14 v' S l' all' told := by
  obtain ⟨o1, o2, o3, o4, o5, o6⟩ := h.ord
  have hown : ∀ k, k < B → some k ≠ v.ownBlock := fun k hk e => own_ne h.ref.row hk e.symm
  obtain ⟨a, b, c, d, e⟩ := h.boxes (w' := w') (fun k hk h1 h2 _ => hr.block k (by omega) h1 h2 (hown k hk))
  refine ⟨hS, hR, a, b, c, d, e, ?_, ?_, o1, o2, o3, o4, o5, Nat.le_trans o6 hr.size⟩
  · refine ⟨h.r14.1, ?_⟩
    have hne := h.ne
    rcases h.r14.2 with h0 | ⟨k, cap, cur, rfl, hk, hh, rest⟩
    · exact .inl h0
    · refine .inr ⟨k, cap, cur, rfl, hk, ?_, rest⟩
      rw [hr.block k (Array.getElem?_eq_some_iff.1 hh).1 (by omega) (by omega) (by
        rcases hne with h1 | h1
        · cases h1
        · exact h1)]
      exact hh
  · rcases h.ne with h1 | h1
    · exact .inl h1
    · rcases hv with h2 | ⟨k, h2, h3⟩
      · exact .inr (fun e => h1 (e.trans h2))
      · refine .inr (fun e => ?_)
        have := (h.r14.lt k (e.trans h2)).2
        omega
end
end Go.Proofs.Ytpnegofmebfcgaa
