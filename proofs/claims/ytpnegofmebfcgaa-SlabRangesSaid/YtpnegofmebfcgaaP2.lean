/- Memory of the law that puts pointers into a slab: boxes, rows, the slab; a range over a function whose first loop variable is boxed. -/
import Derived.Test.YtpnegofmebfcgaaP1
import Derived.Test.YtpnegofmebfcgaaUC
import Derived.RangeFuncBox
namespace Go.Proofs.Ytpnegofmebfcgaa
open Go.RowKit Go.Shelf
set_option linter.unusedVariables false

structure AM (n0 B c7 c8 gN m c : Nat) (w : World) (x7 x8 v7 v8 : Value) (l : List SL) (told : List (Int × Int)) (gone : List Bool) : Prop where
  M : Mem 97 B (n0 + 3) (n0 + 2) w v7 v8 l told gone
  bN : Boxed w n0 22 (.slice (some ⟨gN, 0, none⟩) m c)
  bR : Boxed w (n0 + 1) 4 (.bool false)
  b7 : Boxed w c7 29 x7
  b8 : Boxed w c8 30 x8
  ord : n0 + 3 < c7 ∧ c7 < c8 ∧ c8 < B

section
variable {n0 B c7 c8 gN m c : Nat} {w w' : World} {x7 x8 v7 v8 : Value} {l l' : List SL} {told : List (Int × Int)} {gone : List Bool}
theorem AM.boxes (h : AM n0 B c7 c8 gN m c w x7 x8 v7 v8 l told gone) {row : Option Nat} (hg : w.grownBy w' row) (hr : ∀ k, row = some k → k ≠ n0 ∧ k ≠ n0 + 1 ∧ k ≠ c7 ∧ k ≠ c8) :
    Boxed w' n0 22 (.slice (some ⟨gN, 0, none⟩) m c) ∧ Boxed w' (n0 + 1) 4 (.bool false) ∧ Boxed w' c7 29 x7 ∧ Boxed w' c8 30 x8 :=
  ⟨h.bN.kept hg (fun e => (hr n0 e.symm).1 rfl), h.bR.kept hg (fun e => (hr _ e.symm).2.1 rfl), h.b7.kept hg (fun e => (hr _ e.symm).2.2.1 rfl), h.b8.kept hg (fun e => (hr _ e.symm).2.2.2 rfl)⟩
theorem AM.turn (h : AM n0 B c7 c8 gN m c w x7 x8 v7 v8 l told gone) (hg : w.grownBy w' (some (n0 + 2))) (hS : SlabAt 97 w' (n0 + 3) (n0 + 2) l') : AM n0 B c7 c8 gN m c w' x7 x8 v7 v8 l' told gone := by
  obtain ⟨o1, o2, o3⟩ := h.ord
  obtain ⟨a, b, d, e⟩ := h.boxes hg (fun k hk => by injection hk with hk; omega)
  exact ⟨h.M.turn hg hS, a, b, d, e, h.ord⟩
theorem AM.grown (h : AM n0 B c7 c8 gN m c w x7 x8 v7 v8 l told gone) (hg : w.grownBy w' none) : AM n0 B c7 c8 gN m c w' x7 x8 v7 v8 l told gone := by
  obtain ⟨a, b, d, e⟩ := h.boxes hg (fun k hk => by cases hk)
  exact ⟨h.M.grown hg, a, b, d, e, h.ord⟩
theorem AM.alloc (h : AM n0 B c7 c8 gN m c w x7 x8 v7 v8 l told gone) (o : Obj) : AM n0 B c7 c8 gN m c (w.alloc o) x7 x8 v7 v8 l told gone := h.grown (World.grownBy_alloc w o none)
theorem AM.below (h : AM n0 B c7 c8 gN m c w x7 x8 v7 v8 l told gone) (hb : Below w.heap.size w w') : AM n0 B c7 c8 gN m c w' x7 x8 v7 v8 l told gone := h.grown (below_grown hb)
theorem AM.app7 (h : AM n0 B c7 c8 gN m c w x7 x8 v7 v8 l told gone) {k cc : Nat} {a b : Int} (ho : w'.ownsRow B 32 2 (.slice (some ⟨k, 0, none⟩) (told.length + 1) cc) (told.length + 1) (hcells told ++ [.int .i64 a, .int .i64 b]))
    (hg : w.grownBy w' v7.ownBlock) (hk : v7.ownBlock = some k ∨ k = w.heap.size) : AM n0 B c7 c8 gN m c w' x7 x8 (.slice (some ⟨k, 0, none⟩) (told.length + 1) cc) v8 l (told ++ [(a, b)]) gone := by
  obtain ⟨o1, o2, o3⟩ := h.ord
  obtain ⟨a', b', d, e⟩ := h.boxes hg (fun j hj => by have := (h.M.r7.lt j hj).1; omega)
  exact ⟨h.M.app7 ho hg hk, a', b', d, e, h.ord⟩
theorem AM.app8 (h : AM n0 B c7 c8 gN m c w x7 x8 v7 v8 l told gone) {k cc : Nat} {b : Bool} (ho : w'.ownsRow B 4 1 (.slice (some ⟨k, 0, none⟩) (gone.length + 1) cc) (gone.length + 1) (gone.map Value.bool ++ [.bool b]))
    (hg : w.grownBy w' v8.ownBlock) (hk : v8.ownBlock = some k ∨ k = w.heap.size) : AM n0 B c7 c8 gN m c w' x7 x8 v7 (.slice (some ⟨k, 0, none⟩) (gone.length + 1) cc) l told (gone ++ [b]) := by
  obtain ⟨o1, o2, o3⟩ := h.ord
  obtain ⟨a', b', d, e⟩ := h.boxes hg (fun j hj => by have := (h.M.r8.lt j hj).1; omega)
  exact ⟨h.M.app8 ho hg hk, a', b', d, e, h.ord⟩
theorem Mem.far {T : TypeId} {B ps g : Nat} (h : Mem T B ps g w v7 v8 l told gone) {b : Nat} (h1 : b ≠ ps) (h2 : b ≠ g) (h3 : b < B) (i : Nat) (v : Value) : Mem T B ps g (w.setCell ⟨b, i, none⟩ v) v7 v8 l told gone :=
  ⟨h.slab.far h1 (fun e => h2 e.symm) i v, ownsRow_setCell_below h.r7 h3 v, ownsRow_setCell_below h.r8 h3 v, h.ne, h.low.1, h.low.2.1, by simpa using h.low.2.2⟩
theorem AM.set7 (h : AM n0 B c7 c8 gN m c w x7 x8 v7 v8 l told gone) (v : Value) : AM n0 B c7 c8 gN m c (w.setCell ⟨c7, 0, none⟩ v) v x8 v7 v8 l told gone := by
  obtain ⟨o1, o2, o3⟩ := h.ord
  exact ⟨h.M.far (by omega) (by omega) (by omega) 0 v, h.bN.other (by omega) _, h.bR.other (by omega) _, h.b7.set v, h.b8.other (by omega) _, h.ord⟩
theorem AM.set8 (h : AM n0 B c7 c8 gN m c w x7 x8 v7 v8 l told gone) (v : Value) : AM n0 B c7 c8 gN m c (w.setCell ⟨c8, 0, none⟩ v) x7 v v7 v8 l told gone := by
  obtain ⟨o1, o2, o3⟩ := h.ord
  exact ⟨h.M.far (by omega) (by omega) (by omega) 0 v, h.bN.other (by omega) _, h.bR.other (by omega) _, h.b7.other (by omega) _, h.b8.set v, h.ord⟩
theorem AM.store8 {k cc : Nat} (h : AM n0 B c7 c8 gN m c w x7 x8 v7 (.slice (some ⟨k, 0, none⟩) gone.length cc) l told gone) (i : Nat) (b : Bool) : AM n0 B c7 c8 gN m c (w.setCell ⟨k, i, none⟩ (.bool b)) x7 x8 v7 (.slice (some ⟨k, 0, none⟩) gone.length cc) l told (gone.set i b) := by
  obtain ⟨o1, o2, o3⟩ := h.ord
  have hk := h.M.bl8
  have hne : ∀ j, j < B → some j ≠ some k := fun j hj e => by injection e with e; omega
  exact ⟨h.M.store8 i b, h.bN.kept (grownBy_set w k i _) (hne _ (by omega)), h.bR.kept (grownBy_set w k i _) (hne _ (by omega)), h.b7.kept (grownBy_set w k i _) (hne _ (by omega)), h.b8.kept (grownBy_set w k i _) (hne _ (by omega)), h.ord⟩
end

/-- a turn of a block that is no cells -/
theorem SlabAt.keptc {T : TypeId} {w w' : World} {ps g : Nat} {l : List SL} {row : Option Nat} (h : SlabAt T w ps g l) (hg : w.grownBy w' row) (hr : ∀ r, row = some r → ∃ o : Obj, w.heap[r]? = some o ∧ o.isCells = false) : SlabAt T w' ps g l :=
  ⟨cell_kept h.ptr hg hr, (hg.block g h.gl (fun e => by obtain ⟨o, ho, hc⟩ := hr g e.symm; rw [h.blk] at ho; cases ho; cases hc)).trans h.blk, h.ne⟩
theorem own_keptc {w w' : World} {B : Nat} {E : TypeId} {size n : Nat} {v : Value} {xs : List Value} {row : Option Nat} (h : w.ownsRow B E size v n xs) (hg : w.grownBy w' row) (hr : ∀ r, row = some r → ∃ o : Obj, w.heap[r]? = some o ∧ o.isCells = false) : w'.ownsRow B E size v n xs := by
  refine h.kept hg ?_
  rcases h.2 with ⟨rfl, _⟩ | ⟨k, cap, cur, rfl, hb, hk, _⟩
  · exact .inl rfl
  · refine .inr fun e => ?_
    obtain ⟨o, ho, hc⟩ := hr k e.symm
    rw [hk] at ho; cases ho; cases hc
theorem Mem.keptc {T : TypeId} {B ps g : Nat} {w w' : World} {v7 v8 : Value} {l : List SL} {told : List (Int × Int)} {here : List Bool} {row : Option Nat} (h : Mem T B ps g w v7 v8 l told here) (hg : w.grownBy w' row) (hr : ∀ r, row = some r → ∃ o : Obj, w.heap[r]? = some o ∧ o.isCells = false) : Mem T B ps g w' v7 v8 l told here :=
  ⟨h.slab.keptc hg hr, own_keptc h.r7 hg hr, own_keptc h.r8 hg hr, h.ne, h.low.1, h.low.2.1, Nat.le_trans h.low.2.2 hg.size⟩
theorem AM.keptc {n0 B c7 c8 gN m c : Nat} {w w' : World} {x7 x8 v7 v8 : Value} {l : List SL} {told : List (Int × Int)} {gone : List Bool} {row : Option Nat} (h : AM n0 B c7 c8 gN m c w x7 x8 v7 v8 l told gone) (hg : w.grownBy w' row) (hr : ∀ r, row = some r → ∃ o : Obj, w.heap[r]? = some o ∧ o.isCells = false) : AM n0 B c7 c8 gN m c w' x7 x8 v7 v8 l told gone := by
  have hb : ∀ (b : Nat) (t : TypeId) (v : Value), Boxed w b t v → some b ≠ row := fun b t v hv e => by
    obtain ⟨o, ho, hc⟩ := hr b e.symm
    rw [show w.heap[b]? = _ from hv] at ho; cases ho; cases hc
  exact ⟨h.M.keptc hg hr, h.bN.kept hg (hb _ _ _ h.bN), h.bR.kept hg (hb _ _ _ h.bR), h.b7.kept hg (hb _ _ _ h.b7), h.b8.kept hg (hb _ _ _ h.b8), h.ord⟩

/-- a range over a function: the round's first variable lies in a block of its own (HX), the frame is fr of it -/
theorem range_boxed {F : Fence} {n : Nat} {P : Program} {α : Type} {g : Operand} {ps : Array Tmp} {assign body : Code} {Q : Exit → Act → World → Prop} {a : Act} {w : World}
    (hro : F.round = none) (h1 : 1 ≤ n) {gf : Nat} {lb : Array Value} (hg : a.eval g = .func (.func gf) #[] lb) (hFg : F.fn gf) (eg : ∀ args w, (callFunc gf args).run P w = .ok (.enter gf args) w)
    {encs : α → Array Value} {Kp : World → World → Prop} {S Sp : List α → Prop} {N : Nat} {w0 : World} (hseq : SeqStopsK F (n - 1) P gf lb encs Kp S Sp N w0)
    (hKt : ∀ {A B C : World}, Kp A B → Kp B C → Kp A C) (hKb : ∀ (W : World) (l : Nat) (o o' : Obj), w.heap.size ≤ l → W.heap[l]? = some o → o.isCells = false → o.isWalk = false → Kp W (W.putObj l o')) (hb0 : Below w0.heap.size w0 w) (hps : ∀ x, (encs x).size = ps.size)
    (I : List α → World → Prop) (Ix : Code → List α → World → Prop) (hI : OwnFrom w.heap.size I) (hIx : ∀ c, OwnFrom w.heap.size (Ix c)) (h0 : I [] w)
    (HX : World → Nat → α → Prop) (fr : Act → α → Nat → Act) (hHX : ∀ Bx x, OwnFrom w.heap.size (fun (_ : Unit) W => HX W Bx x))
    (hassign : ∀ (l : Nat) (pre : List α) (x : α) (W : World) (K : Act → World → Prop), I pre W → (∀ Bx W', w.heap.size ≤ Bx → KeepsFrom w.heap.size W W' → Kp W W' → I pre W' → HX W' Bx x → K (fr a x Bx) W') →
      assign.wpIn (F.inRound l) (n - 1 - 1) P (Exit.then K (fun _ _ _ => False)) { tmps := (ps.zip (encs x)).foldl (fun t (p, v) => t.setIfInBounds p v) a.tmps, defers := [] } W)
    (hbody : ∀ (l : Nat) (pre : List α) (x : α) (Bx : Nat) (W : World), w.heap.size ≤ Bx → I pre W → HX W Bx x → pre.length < N → body.wpIn (F.inRound l) (n - 1 - 1) P (ownPostG w.heap.size Kp I Ix (pre ++ [x]) W) (fr a x Bx) W)
    (hdone : ∀ (D : Nat) (xs : List α) (W : World), w.heap.size ≤ D → S xs → I xs W → W.heap[D]? = some (.deferred (some [])) → Q .normal { a with defers := { target := .collected D, args := #[] } :: a.defers } W)
    (hstop : ∀ (D : Nat) (c : Code) (pre : List α) (W : World), w.heap.size ≤ D → Sp pre → Ix c pre W → W.heap[D]? = some (.deferred (some [])) → c.wpIn F n P Q { a with defers := { target := .collected D, args := #[] } :: a.defers } W) :
    (Code.rangeFunc g ps assign body).wpIn F n P Q a w :=
  wpIn_rangeFunc_ownH hro h1 hg hFg eg hseq hKt hKb hb0 hps I Ix hI hIx h0 (fun x a' W => ∃ Bx, w.heap.size ≤ Bx ∧ HX W Bx x ∧ a' = fr a x Bx)
    (fun x a' s A B row hs hg' hr => by obtain ⟨Bx, h1, h2, h3⟩ := hs; exact ⟨Bx, h1, hHX Bx x () A B row h2 hg' hr, h3⟩)
    (fun l pre x W K hi hK => hassign l pre x W K hi (fun Bx W' hb hk hkp hi' hx => hK _ W' hk hkp hi' ⟨Bx, hb, hx, rfl⟩))
    (fun l pre x a' W _ _ hi ⟨Bx, hb, hx, e⟩ hlt => e ▸ hbody l pre x Bx W hb hi hx hlt)
    hdone hstop
end Go.Proofs.Ytpnegofmebfcgaa
