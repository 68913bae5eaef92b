/- TripPlays: the book: lists filled with marks. -/
import Derived.Test.YtnooghehmgbemaaGreatP11
import Derived.Test.YtnooghehmgbemaaGreatP12
namespace Go.Proofs.YtnooghehmgbemaaGreat
open Go.RowKit
set_option linter.unusedVariables false
set_option linter.unusedSimpArgs false

def MKS (n : Int) (m : Nat) : List Value := (List.replicate m (MK n).cells).flatMap id
theorem mks_len (n : Int) (m : Nat) : (MKS n m).length = m * 23 := by
  unfold MKS
  rw [flat_len (m := 23) _ (fun x hx => by rw [List.eq_of_mem_replicate hx]; rfl), List.length_replicate]
theorem mks_succ (n : Int) (m : Nat) : MKS n (m + 1) = MKS n m ++ (MK n).cells := by
  unfold MKS
  rw [List.replicate_succ', List.flatMap_append]; simp
theorem mks_take (n : Int) {m k : Nat} (h : m ≤ k) : (MKS n k).take (m * 23) = MKS n m := by
  obtain ⟨d, rfl⟩ := Nat.exists_eq_add_of_le h
  unfold MKS
  rw [← List.replicate_append_replicate, List.flatMap_append, List.take_left']
  exact mks_len n m
def Mkd (F : Nat → Prop) (w : World) (e : HE) (m : Nat) : Prop := (e.g = none ∧ e.len = 0 ∧ e.cap = 0 ∧ m = 0) ∨ ∃ b cur, e.g = some b ∧ w.heap[b]? = some (.cells cur 83 (0, 0)) ∧ e.len ≤ e.cap ∧ e.cap ≤ maxLen ∧ cur.size = e.cap * 23 ∧ F b ∧ cur.toList.take (m * 23) = MKS e.num m
structure BookM (F : Nat → Prop) (w : World) (kb : Nat) (hv : Value) (es : List HE) (M : Nat → Nat) : Prop where
  hd : w.heap[kb]? = some (.cells (bookC es.length hv) 54 (0, 0))
  row : w.ownsRow 0 93 3 hv es.length ((es.map HE.cells).flatMap id)
  leaf : ∀ (i : Nat) (e : HE), es[i]? = some e → Mkd F w e (M i)
  apart : es.Pairwise fun a b => ∀ x, a.g = some x → b.g ≠ some x
  num : ∀ (i : Nat) (e : HE), es[i]? = some e → e.num = (i : Int) + 1
  len : ∀ e ∈ es, e.len ≤ 1048576
  fr : F kb
  fo : ∀ g, hv.ownBlock = some g → F g
section
variable {F : Nat → Prop} {w u : World} {kb : Nat} {hv : Value} {es : List HE} {M M' : Nat → Nat}
theorem BookIn.m (h : BookIn F w kb hv es) : BookM F w kb hv es (fun _ => 0) where
  hd := h.hd
  row := h.row
  leaf := fun i e he => by
    rcases h.leaf e (List.mem_of_getElem? he) with ⟨h1, h2, h3⟩ | ⟨b, cur, h1, h2, h3, h4, h5, h6⟩
    · exact .inl ⟨h1, h2, h3, rfl⟩
    · exact .inr ⟨b, cur, h1, h2, h3, h4, h5, h6, by simp [MKS]⟩
  apart := h.apart
  num := h.num
  len := h.len
  fr := h.fr
  fo := h.fo
theorem BookM.congr (h : BookM F w kb hv es M) (hM : ∀ j, j < es.length → M j = M' j) : BookM F w kb hv es M' :=
  { h with leaf := fun i e he => by rw [← hM i (List.getElem?_eq_some_iff.1 he).1]; exact h.leaf i e he }
theorem Mkd.of {e : HE} {m : Nat} (h : Mkd F w e m) (hb : ∀ k, F k → u.heap[k]? = w.heap[k]?) : Mkd F u e m := by
  rcases h with h | ⟨b, cur, h1, h2, h3⟩
  · exact .inl h
  · exact .inr ⟨b, cur, h1, (hb b h3.2.2.2.1).trans h2, h3⟩
theorem BookM.of_blocks (h : BookM F w kb hv es M) (hb : ∀ k, F k → u.heap[k]? = w.heap[k]?) : BookM F u kb hv es M :=
  { h with
    hd := (hb _ h.fr).trans h.hd
    row := ownsRow_of h.row (fun g hg => hb g (h.fo g hg))
    leaf := fun i e he => (h.leaf i e he).of hb }
theorem BookM.c18 (h : BookM F w kb hv es M) : w.cell? ⟨kb, 18, none⟩ = some hv := by rw [cell_of_row w kb _ _ _ _ h.hd]; rfl
theorem BookM.cn (h : BookM F w kb hv es M) {f : Nat} (hf : f < 26) (h0 : f ≠ 0) (h18 : f ≠ 18) : w.cell? ⟨kb, f, none⟩ = some (.slice none 0 0) := by
  rw [cell_of_row w kb _ _ _ _ h.hd]
  have : f = 1 ∨ f = 2 ∨ f = 3 ∨ f = 4 ∨ f = 5 ∨ f = 6 ∨ f = 7 ∨ f = 8 ∨ f = 9 ∨ f = 10 ∨ f = 11 ∨ f = 12 ∨ f = 13 ∨ f = 14 ∨ f = 15 ∨ f = 16 ∨ f = 17 ∨ f = 19 ∨ f = 20 ∨ f = 21 ∨ f = 22 ∨ f = 23 ∨ f = 24 ∨ f = 25 := by omega
  rcases this with rfl | rfl | rfl | rfl | rfl | rfl | rfl | rfl | rfl | rfl | rfl | rfl | rfl | rfl | rfl | rfl | rfl | rfl | rfl | rfl | rfl | rfl | rfl | rfl <;> rfl
theorem held_len : ∀ x ∈ es.map HE.cells, x.length = 3 := fun x hx => by obtain ⟨e, _, rfl⟩ := List.mem_map.1 hx; rfl
/-- where entry number i lies -/
theorem BookM.entry (h : BookM F w kb hv es M) {i : Nat} {e : HE} (he : es[i]? = some e) : ∃ g cap, hv = .slice (some ⟨g, 0, none⟩) es.length cap ∧ w.rangeAt g (i * 3) e.cells ∧ F g := by
  have hi := (List.getElem?_eq_some_iff.1 he).1
  obtain ⟨g, cap, cur, hv', _, h1, _, _, _, h2⟩ := h.row.2.resolve_left (fun h => by omega)
  have hm : (es.map HE.cells)[i]? = some e.cells := by rw [List.getElem?_map, he]; rfl
  refine ⟨g, cap, hv', ?_, h.fo g (by rw [hv']; rfl)⟩
  exact range_of h1 (i * 3) (es.length * 3) (h2.trans (flat_split hm)) (by
    rw [flat_len (m := 3) _ (fun x hx => held_len x (List.mem_of_mem_take hx)), List.length_take, List.length_map, Nat.min_eq_left (Nat.le_of_lt hi)])
/-- one row more of list i is a mark -/
theorem BookM.store (h : BookM F w kb hv es M) {i : Nat} {e : HE} (he : es[i]? = some e) (hk : M i < e.len) :
    ∃ b cur, e.g = some b ∧ w.heap[b]? = some (.cells cur 83 (0, 0)) ∧ M i * 23 + 23 ≤ cur.size ∧ F b ∧
      BookM F (w.setRow b (cur.toList.take (M i * 23) ++ (MK e.num).cells ++ cur.toList.drop (M i * 23 + 23)).toArray) kb hv es (fun j => if j = i then M i + 1 else M j) := by
  rcases h.leaf i e he with ⟨h1, h2, _⟩ | ⟨b, cur, h1, h2, h3, h4, h5, h6, h7⟩
  · omega
  have hsz : M i * 23 + 23 ≤ cur.size := by rw [h5]; omega
  have hnk : b ≠ kb := fun e' => by have := h.hd; rw [← e', h2] at this; injection this with this; injection this with _ this; cases this
  have hnh : ∀ g, hv.ownBlock = some g → g ≠ b := fun g hg e' => by
    rcases h.row.2 with ⟨h', _⟩ | ⟨g', cap', cur', h', _, h8, _⟩
    · rw [h'] at hg; cases hg
    · rw [h'] at hg; injection hg with hg; subst hg
      subst e'
      rw [show (⟨g', 0, none⟩ : Addr).block = g' from rfl, h8] at h2; injection h2 with h2; injection h2 with _ h2; cases h2
  refine ⟨b, cur, h1, h2, hsz, h6, { h with
    hd := (setRow_other _ _ _ _ hnk.symm).trans h.hd
    row := ownsRow_of h.row (fun g hg => setRow_other _ _ _ _ (hnh g hg))
    leaf := fun j x hx => ?_ }⟩
  by_cases hj : j = i
  · subst hj
    rw [he] at hx; cases hx
    rw [if_pos rfl]
    refine .inr ⟨b, _, h1, setRow_heap _ _ _ _ _ _ h2, h3, h4, ?_, h6, ?_⟩
    · simp only [List.size_toArray, List.length_append, List.length_take, List.length_drop, Array.length_toList, mk_len]; omega
    · rw [h7, List.append_assoc, mks_succ, ← List.append_assoc, List.take_left']
      rw [List.length_append, mks_len, mk_len]; omega
  · rw [if_neg hj]
    rcases h.leaf j x hx with h' | ⟨b', cur', h1', h2', h3'⟩
    · exact .inl h'
    · refine .inr ⟨b', cur', h1', ?_, h3'⟩
      have hbb : b' ≠ b := fun e' => by
        subst e'
        have ha := List.pairwise_iff_getElem.1 h.apart
        obtain ⟨hi, hei⟩ := List.getElem?_eq_some_iff.1 he
        obtain ⟨hj', hxj⟩ := List.getElem?_eq_some_iff.1 hx
        rcases Nat.lt_trichotomy i j with hl | hl | hl
        · exact ha i j hi hj' hl b' (by rw [hei]; exact h1) (by rw [hxj]; exact h1')
        · exact hj hl.symm
        · exact ha j i hj' hi hl b' (by rw [hxj]; exact h1') (by rw [hei]; exact h1)
      exact (setRow_other _ _ _ _ hbb).trans h2'
end
/-- a row stored into the middle of a block -/
theorem run_storemid {P : Program} {w : World} {b off n : Nat} {cs : Array Value} {t ty : TypeId} (hb : w.heap[b]? = some (.cells cs t (0, 0))) (hi : (P.info? ty).map (·.size) = some n) (c' : List Value) (hc : c'.length = n) (ho : off + n ≤ cs.size) (h1 : ∀ u ∈ c', u.oneCell' = true) :
    (storeVar ty ⟨b, off, none⟩ (.agg c'.toArray)).run P w = .ok () (w.setRow b (cs.toList.take off ++ c' ++ cs.toList.drop (off + n)).toArray) := by
  have h := run_storeCells_at (P := P) b off t c' 0 cs w hb (by omega) h1
  cases hq : P.info? ty with
  | none => simp [hq] at hi
  | some i =>
    have hs : i.size = n := by simp [hq] at hi; omega
    simp only [Nat.add_zero, hc] at h
    simp [storeVar, sizeOf, typeInfo, hq, Value.cells, hs, hc, h]
theorem wp_storemid {P : Program} {w : World} {o : Oper} {a : Act} {K : Act → World → Prop} {Q : Exit → Act → World → Prop} {n : Nat} (ty : TypeId) (x y : Operand) (ho : o.op = .store ty x y) (b off : Nat) (hx : a.eval x = .pointer (some ⟨b, off, none⟩)) (c' : List Value) (hy : a.eval y = .agg c'.toArray) {cs : Array Value} {t : TypeId} (hb : w.heap[b]? = some (.cells cs t (0, 0)))
    (hi : (P.info? ty).map (·.size) = some n) (hc : c'.length = n) (hof : off + n ≤ cs.size) (h1 : ∀ u ∈ c', u.oneCell' = true) (h : K (a.put o.dst undef) (w.setRow b (cs.toList.take off ++ c' ++ cs.toList.drop (off + n)).toArray)) : o.wp P a w K Q := by
  unfold Oper.wp execOp
  simp only [ho, hx, hy, Instr.storeAt, Instr.sureAddr, Sem.run_bind, Sem.run_pure, Result.andThen_ok, run_storemid hb hi c' hc hof h1]
  exact h
theorem zero93 : (Tryz.prog.info? 93).map (fun i => (i.zero, i.size)) = some (some (.agg #[.slice none 0 0, .slice none 0 0, .int .i64 0]), 3) := by kernel_rfl
theorem size93 : (Tryz.prog.info? 93).map (·.size) = some 3 := by kernel_rfl
end Go.Proofs.YtnooghehmgbemaaGreat
