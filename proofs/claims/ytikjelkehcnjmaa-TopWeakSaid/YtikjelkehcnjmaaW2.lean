/- Top, base: arrays as functions; blocks of one's own. -/
import Derived.Test.YtikjelkehcnjmaaW1
import Derived.Test.YtikjelkehcnjmaaM7
namespace Go.Proofs.Ytikjelkehcnjmaa
open Go.RowKit
set_option linter.unusedVariables false
set_option linter.unusedSimpArgs false
def vl (g : Nat → Value) : Nat → Nat → List Value
  | 0, _ => []
  | n + 1, i => g i :: vl g n (i + 1)
def arr (n : Nat) (g : Nat → Value) : Array Value := (vl g n 0).toArray
def iarr (n : Nat) (f : Nat → Int) : Array Value := arr n fun i => .int .i64 (f i)
def barr (n : Nat) (s : Nat → Bool) : Array Value := arr n fun i => .bool (s i)
theorem vl_len (g : Nat → Value) : ∀ n i, (vl g n i).length = n
  | 0, _ => rfl
  | n + 1, i => by simp [vl, vl_len g n]
theorem vl_get (g : Nat → Value) : ∀ n i j, j < n → (vl g n i)[j]? = some (g (i + j))
  | 0, _, _, h => by omega
  | n + 1, i, 0, _ => rfl
  | n + 1, i, j + 1, h => by
    show (vl g n (i + 1))[j]? = _
    rw [vl_get g n (i + 1) j (by omega)]
    congr 2; omega
theorem arr_size (n : Nat) (g : Nat → Value) : (arr n g).size = n := by simp [arr, vl_len]
theorem arr_get {n : Nat} (g : Nat → Value) {j : Nat} (h : j < n) : (arr n g)[j]? = some (g j) := by
  rw [arr, List.getElem?_toArray, vl_get g n 0 j h]; simp
theorem arr_out {n : Nat} (g : Nat → Value) {j : Nat} (h : n ≤ j) : (arr n g)[j]? = none := Array.getElem?_eq_none (by rw [arr_size]; exact h)
theorem arr_congr {n : Nat} {f g : Nat → Value} (h : ∀ i, i < n → f i = g i) : arr n f = arr n g := by
  apply Array.ext_getElem?
  intro j
  by_cases e : j < n
  · rw [arr_get f e, arr_get g e, h j e]
  · rw [arr_out f (by omega), arr_out g (by omega)]
theorem arr_set {n : Nat} (g : Nat → Value) {j : Nat} (h : j < n) (v : Value) : (arr n g).setIfInBounds j v = arr n fun i => if i = j then v else g i := by
  apply Array.ext_getElem?
  intro i
  rw [Array.getElem?_setIfInBounds]
  by_cases e : i < n
  · rw [arr_get (fun i => if i = j then v else g i) e]
    by_cases x : j = i
    · subst x; rw [if_pos rfl, if_pos (by rw [arr_size]; exact h), if_pos rfl]
    · rw [if_neg x, if_neg (fun y : i = j => x y.symm), arr_get g e]
  · rw [arr_out (fun i => if i = j then v else g i) (by omega), if_neg (by omega), arr_out g (by omega)]
theorem iarr_size (n : Nat) (f : Nat → Int) : (iarr n f).size = n := arr_size _ _
theorem barr_size (n : Nat) (s : Nat → Bool) : (barr n s).size = n := arr_size _ _
theorem iarr_set {n : Nat} (f : Nat → Int) {j : Nat} (h : j < n) (x : Int) : (iarr n f).setIfInBounds j (.int .i64 x) = iarr n (up f j x) := by
  unfold iarr; rw [arr_set _ h]
  exact arr_congr fun i _ => by unfold up; by_cases e : i = j <;> simp [e]
theorem barr_set {n : Nat} (s : Nat → Bool) {j : Nat} (h : j < n) : (barr n s).setIfInBounds j (.bool true) = barr n (mark s j) := by
  unfold barr; rw [arr_set _ h]
  exact arr_congr fun i _ => by unfold mark; by_cases e : i = j <;> simp [e]
theorem iarr_congr {n : Nat} {f g : Nat → Int} (h : ∀ i, i < n → f i = g i) : iarr n f = iarr n g := arr_congr fun i hi => by rw [h i hi]
theorem zero44 : (Try.prog.info? 44).map (fun i => (i.zero, i.size)) = some (some (.agg (iarr 64 fun _ => 0)), 64) := by kernel_rfl
theorem zero54 : (Try.prog.info? 54).map (fun i => (i.zero, i.size)) = some (some (.agg (barr 64 fun _ => false)), 64) := by kernel_rfl
theorem zero64 : (Try.prog.info? 64).map (fun i => (i.zero, i.size)) = some (some (.agg (iarr 65 fun _ => 0)), 65) := by kernel_rfl
theorem zero65 : (Try.prog.info? 65).map (fun i => (i.zero, i.size)) = some (some (.agg (barr 65 fun _ => false)), 65) := by kernel_rfl
/-- the cells of a table -/
def tarr (m k : Int) (w : Nat → Nat → Int) : Array Value := (.int .i64 m :: .int .i64 k :: vl (fun i => .int .i64 (w (i / 64) (i % 64))) 4096 0).toArray
theorem zero57 : (Try.prog.info? 57).map (fun i => (i.zero, i.size)) = some (some (.agg (tarr 0 0 fun _ _ => 0)), 4098) := by kernel_rfl
/-- blocks of one's own, since w0 -/
structure Mem (w0 w : World) (bs : List (Nat × Obj)) : Prop where
  below : Below w0.heap.size w0 w
  hb : ∀ (i b : Nat) (o : Obj), bs[i]? = some (b, o) → w.heap[b]? = some o
  new : ∀ (i b : Nat) (o : Obj), bs[i]? = some (b, o) → w0.heap.size ≤ b
  nd : ∀ (i j b : Nat) (o o' : Obj), bs[i]? = some (b, o) → bs[j]? = some (b, o') → i = j
section
variable {w0 w v : World} {bs : List (Nat × Obj)}
theorem mem_zero (w0 : World) : Mem w0 w0 [] := ⟨Below.refl _ _, fun i b o h => by simp at h, fun i b o h => by simp at h, fun i j b o o' h => by simp at h⟩
theorem Mem.at (h : Mem w0 w bs) (i : Nat) {b : Nat} {o : Obj} (hi : bs[i]? = some (b, o)) : w.heap[b]? = some o := h.hb i b o hi
theorem Mem.up (h : Mem w0 w bs) (hb : Below w.heap.size w v) : Mem w0 v bs :=
  ⟨h.below.trans (hb.mono h.below.size), fun i b o e => (hb.block _ (Array.getElem?_eq_some_iff.1 (h.hb i b o e)).1).trans (h.hb i b o e), h.new, h.nd⟩
theorem Mem.add (h : Mem w0 w bs) (hb : Below w.heap.size w v) {b : Nat} {o : Obj} (hn : w.heap.size ≤ b) (ho : v.heap[b]? = some o) : Mem w0 v (bs ++ [(b, o)]) := by
  have g := h.up hb
  have old : ∀ (i c : Nat) (q : Obj), bs[i]? = some (c, q) → c < w.heap.size := fun i c q e => (Array.getElem?_eq_some_iff.1 (h.hb i c q e)).1
  have part : ∀ (i c : Nat) (q : Obj), (bs ++ [(b, o)])[i]? = some (c, q) → bs[i]? = some (c, q) ∨ (i = bs.length ∧ c = b ∧ q = o) := fun i c q e => by
    by_cases x : i < bs.length
    · rw [List.getElem?_append_left x] at e; exact .inl e
    · rw [List.getElem?_append_right (by omega)] at e
      by_cases y : i - bs.length = 0
      · rw [y] at e; simp at e; exact .inr ⟨by omega, e.1.symm, e.2.symm⟩
      · rw [List.getElem?_eq_none (by simp; omega)] at e; cases e
  refine ⟨g.below, fun i c q e => ?_, fun i c q e => ?_, fun i j c q q' e e' => ?_⟩
  · rcases part i c q e with e | ⟨_, rfl, rfl⟩
    · exact g.hb i c q e
    · exact ho
  · rcases part i c q e with e | ⟨_, rfl, rfl⟩
    · exact g.new i c q e
    · exact Nat.le_trans h.below.size hn
  · rcases part i c q e with e | ⟨rfl, x, _⟩ <;> rcases part j c q' e' with e' | ⟨rfl, y, _⟩
    · exact h.nd i j c q q' e e'
    · have := old i c q e; omega
    · have := old j c q' e'; omega
    · rfl
theorem Mem.alloc (h : Mem w0 w bs) (o : Obj) : Mem w0 (w.alloc o) (bs ++ [(w.heap.size, o)]) := h.add ((Below.refl _ w).alloc (Nat.le_refl _) _) (Nat.le_refl _) (heap_last w o)
theorem Mem.set (h : Mem w0 w bs) (i : Nat) {b : Nat} {cs : Array Value} {t : TypeId} (hi : bs[i]? = some (b, .cells cs t (0, 0))) (c' : Array Value) : Mem w0 (w.setRow b c') (bs.set i (b, .cells c' t (0, 0))) := by
  have hlt : i < bs.length := (List.getElem?_eq_some_iff.1 hi).1
  have part : ∀ (j c : Nat) (q : Obj), (bs.set i (b, .cells c' t (0, 0)))[j]? = some (c, q) → (i ≠ j ∧ bs[j]? = some (c, q) ∧ c ≠ b) ∨ (j = i ∧ c = b ∧ q = .cells c' t (0, 0)) := fun j c q e => by
    by_cases x : i = j
    · subst x
      rw [List.getElem?_set_self hlt] at e
      injection e with e; injection e with e1 e2
      exact .inr ⟨rfl, e1.symm, e2.symm⟩
    · rw [List.getElem?_set_ne x] at e
      exact .inl ⟨x, e, fun y => by subst y; exact x (h.nd i j c _ _ hi e)⟩
  refine ⟨Below.setRow h.below (h.new i b _ hi) _, fun j c q e => ?_, fun j c q e => ?_, fun j l c q q' e e' => ?_⟩
  · rcases part j c q e with ⟨_, e, ne⟩ | ⟨_, rfl, rfl⟩
    · exact (setRow_other w b c c' ne).trans (h.hb j c q e)
    · exact setRow_heap _ _ _ _ _ _ (h.hb i c _ hi)
  · rcases part j c q e with ⟨_, e, ne⟩ | ⟨_, rfl, rfl⟩
    · exact h.new j c q e
    · exact h.new i c _ hi
  · rcases part j c q e with ⟨x, e, ne⟩ | ⟨rfl, x, _⟩ <;> rcases part l c q' e' with ⟨y, e', ne'⟩ | ⟨rfl, y, _⟩
    · exact h.nd j l c q q' e e'
    · exact absurd y ne
    · exact absurd x ne'
    · rfl
theorem Mem.icell (h : Mem w0 w bs) (i : Nat) {b n : Nat} {f : Nat → Int} {t : TypeId} (hi : bs[i]? = some (b, .cells (iarr n f) t (0, 0))) {j : Nat} (hj : j < n) : w.cell? ⟨b, j, none⟩ = some (.int .i64 (f j)) := by
  rw [cell_of_row w b j _ _ _ (h.at i hi)]; exact arr_get _ hj
theorem Mem.bcell (h : Mem w0 w bs) (i : Nat) {b n : Nat} {f : Nat → Bool} {t : TypeId} (hi : bs[i]? = some (b, .cells (barr n f) t (0, 0))) {j : Nat} (hj : j < n) : w.cell? ⟨b, j, none⟩ = some (.bool (f j)) := by
  rw [cell_of_row w b j _ _ _ (h.at i hi)]; exact arr_get _ hj
end
end Go.Proofs.Ytikjelkehcnjmaa
