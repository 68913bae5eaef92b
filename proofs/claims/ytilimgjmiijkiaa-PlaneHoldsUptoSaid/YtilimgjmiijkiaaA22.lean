/- Rows and boxes behind steps elsewhere; a row's point written over, 22. -/
import Derived.Test.YtilimgjmiijkiaaA19
import Derived.Test.YtilimgjmiijkiaaA20
namespace Go.Proofs.Ytilimgjmiijkiaa
open Go.RowKit

theorem PRd.up {w w' : World} {n : Nat} {A : Option Addr} {xs : List (Int × Int)} (h : PRd w w.heap.size A n xs) (hb : Below w.heap.size w w') : PRd w' w'.heap.size A n xs := by
  have := h.below hb
  exact ⟨this.1, this.2.1, fun hn => by obtain ⟨b, off, e, hl, hcc⟩ := this.2.2 hn; exact ⟨b, off, e, Nat.lt_of_lt_of_le hl hb.size, hcc⟩⟩
/-- the caller's points, behind whatever has grown since -/
theorem PRd.upFrom {w w' : World} {B n : Nat} {A : Option Addr} {xs : List (Int × Int)} (h : PRd w B A n xs) (hB : B ≤ w.heap.size) (hb : Below B w w') : PRd w' w'.heap.size A n xs := by
  have := h.below hb
  exact ⟨this.1, this.2.1, fun hn => by obtain ⟨b, off, e, hl, hcc⟩ := this.2.2 hn; exact ⟨b, off, e, Nat.lt_of_lt_of_le hl (Nat.le_trans hB hb.size), hcc⟩⟩

def Row.alloc {w : World} {g cap n : Nat} {xs : List (Int × Int)} (h : Row w g cap n xs) (o : Obj) : Row (w.alloc o) g cap n xs := h.below ((Below.refl w.heap.size w).alloc (Nat.le_refl _) o) h.lt

theorem Four.new (w : World) (a b c d : Int) : Four (w.alloc (.cells #[.int .i16 a, .int .i16 b, .int .i16 c, .int .i16 d] 33)) w.heap.size a b c d := by
  constructor <;> simp [go_sem]
theorem Four.below {w w' : World} {g B : Nat} {a b c d : Int} (h : Four w g a b c d) (hb : Below B w w') (hg : g < B) : Four w' g a b c d :=
  ⟨(hb.cell (p := ⟨g, 0, none⟩) hg).trans h.c0, (hb.cell (p := ⟨g, 1, none⟩) hg).trans h.c1, (hb.cell (p := ⟨g, 2, none⟩) hg).trans h.c2, (hb.cell (p := ⟨g, 3, none⟩) hg).trans h.c3,
    (hb.frozen (p := ⟨g, 0, none⟩) hg).trans h.f0, (hb.frozen (p := ⟨g, 1, none⟩) hg).trans h.f1, (hb.frozen (p := ⟨g, 2, none⟩) hg).trans h.f2, (hb.frozen (p := ⟨g, 3, none⟩) hg).trans h.f3, Nat.lt_of_lt_of_le h.lt hb.size⟩
theorem Four.alloc {w : World} {g : Nat} {a b c d : Int} (h : Four w g a b c d) (o : Obj) : Four (w.alloc o) g a b c d := h.below ((Below.refl w.heap.size w).alloc (Nat.le_refl _) o) h.lt
theorem Four.far {w : World} {g : Nat} {a b c d : Int} (h : Four w g a b c d) (q : Addr) (hq : g ≠ q.block) (u : Value) : Four (w.setCell q u) g a b c d := by
  have e : (w.setCell q u).heap[g]? = w.heap[g]? := Below.heap_setCell w q u g hq
  have k : ∀ i, (w.setCell q u).cell? ⟨g, i, none⟩ = w.cell? ⟨g, i, none⟩ := fun i => World.cell?_of_block e
  have f : ∀ i, (w.setCell q u).frozen? ⟨g, i, none⟩ = w.frozen? ⟨g, i, none⟩ := fun i => World.frozen?_of_block e
  exact ⟨(k 0).trans h.c0, (k 1).trans h.c1, (k 2).trans h.c2, (k 3).trans h.c3, (f 0).trans h.f0, (f 1).trans h.f1, (f 2).trans h.f2, (f 3).trans h.f3, by simpa using h.lt⟩

theorem flat_set : ∀ (xs : List (Int × Int)) (i : Nat) (p : Int × Int) (x : Int), xs[i]? = some p → flat (xs.set i (x, p.2)) = (flat xs).set (i * 2) (.int .i16 x)
  | [], i, p, x, h => by simp at h
  | q :: r, 0, p, x, h => by simp at h; subst h; rfl
  | q :: r, i + 1, p, x, h => by
    have := flat_set r i p x (by simpa using h)
    have e : (i + 1) * 2 = i * 2 + 1 + 1 := by omega
    rw [e]
    simp [flat, this]

/-- one point's column written over -/
def Row.put {w : World} {g cap n : Nat} {xs : List (Int × Int)} (h : Row w g cap n xs) (i : Nat) (p : Int × Int) (x : Int) (hp : xs[i]? = some p) :
    Row (w.setCell ⟨g, i * 2, none⟩ (.int .i16 x)) g cap n (xs.set i (x, p.2)) where
  cur := h.cur.setIfInBounds (i * 2) (.int .i16 x)
  hb := by
    have := h.hb
    simp [World.setCell, Array.getElem?_modify, this]
  hn := h.hn
  hc := h.hc
  hs := by simp [h.hs]
  ht := by
    have hi : i < xs.length := (List.getElem?_eq_some_iff.1 hp).1
    rw [Array.toList_setIfInBounds, List.take_set, h.ht]
    rw [show xs.set i (x, p.2) ++ [(77, -77)] = (xs ++ [(77, -77)]).set i (x, p.2) by rw [List.set_append_left _ _ hi]]
    rw [flat_set (xs ++ [(77, -77)]) i p x (by rw [List.getElem?_append_left hi]; exact hp)]
  hx := by simp [h.hx]

/-- points mirrored, the first k of them -/
def flips (xs : List (Int × Int)) (k : Nat) : List (Int × Int) := (xs.take k).map (fun p => (-1 - p.1, p.2)) ++ xs.drop k

theorem flips_zero (xs : List (Int × Int)) : flips xs 0 = xs := by simp [flips]
theorem flips_at (xs : List (Int × Int)) (k : Nat) (p : Int × Int) (h : xs[k]? = some p) : (flips xs k)[k]? = some p ∧ (flips xs k).set k (-1 - p.1, p.2) = flips xs (k + 1) := by
  have hk : k < xs.length := (List.getElem?_eq_some_iff.1 h).1
  have hl : ((xs.take k).map (fun p : Int × Int => (-1 - p.1, p.2))).length = k := by rw [List.length_map, List.length_take_of_le (by omega)]
  have hd : xs.drop k = p :: xs.drop (k + 1) := by
    rw [List.drop_eq_getElem_cons hk]
    have := List.getElem?_eq_getElem hk
    rw [this] at h; injection h with h; rw [h]
  unfold flips
  constructor
  · rw [List.getElem?_append_right (by rw [hl]; exact Nat.le_refl _), hl, Nat.sub_self, hd]; rfl
  · rw [List.set_append_right _ _ (by rw [hl]; exact Nat.le_refl _), hl, Nat.sub_self, hd, List.set_cons_zero, List.take_add_one, h]
    simp
theorem flips_bd (xs : List (Int × Int)) (k : Nat) (h : ∀ p ∈ xs, -32768 ≤ p.1 ∧ p.1 ≤ 32767 ∧ -32768 ≤ p.2 ∧ p.2 ≤ 32767) : ∀ p ∈ flips xs k, -32768 ≤ p.1 ∧ p.1 ≤ 32767 ∧ -32768 ≤ p.2 ∧ p.2 ≤ 32767 := by
  intro p hp
  unfold flips at hp
  rcases List.mem_append.1 hp with hp | hp
  · obtain ⟨q, hq, rfl⟩ := List.mem_map.1 hp
    have := h q (List.mem_of_mem_take hq)
    simp only
    omega
  · exact h p (List.mem_of_mem_drop hp)
end Go.Proofs.Ytilimgjmiijkiaa
