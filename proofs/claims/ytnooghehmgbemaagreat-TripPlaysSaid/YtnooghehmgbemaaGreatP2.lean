/- TripPlays: the reference: place, Get, Of. -/
import Derived.Test.YtnooghehmgbemaaGreatP1
namespace Go.Proofs.YtnooghehmgbemaaGreat
open Go.RowKit
set_option linter.unusedVariables false
set_option linter.unusedSimpArgs false

/-- the reference's trips at block rb: their state is q; their blocks are of F -/
structure RefIn (F : Nat → Prop) (w : World) (rb : Nat) (v : Value) (q : St) : Prop where
  hd : w.heap[rb]? = some (.cells #[v, .int .i64 q.clock] 77 (0, 0))
  row : w.ownsRow 0 83 23 v q.l.length ((q.l.map Tr.cells).flatMap id)
  fr : F rb
  fo : ∀ g, v.ownBlock = some g → F g
def RefAt (F : Nat → Prop) (w : World) (rb : Nat) (q : St) : Prop := (∀ k, F k → k < w.heap.size) ∧ ∃ v, RefIn F w rb v q
section
variable {F : Nat → Prop} {w u : World} {rb : Nat} {v : Value} {q : St}
theorem RefIn.c (h : RefIn F w rb v q) : w.cell? ⟨rb, 0, none⟩ = some v ∧ w.cell? ⟨rb, 1, none⟩ = some (.int .i64 q.clock) := by
  refine ⟨?_, ?_⟩ <;> rw [cell_of_row w rb _ _ _ _ h.hd] <;> rfl
theorem RefIn.lt (h : RefIn F w rb v q) : rb < w.heap.size := (Array.getElem?_eq_some_iff.1 h.hd).1
theorem RefIn.rowT (h : RefIn F w rb v q) : RowT w v q.l := RowT.of_own h.row
theorem RefIn.of_blocks {G : Nat → Prop} (h : RefIn F w rb v q) (hb : ∀ k, F k → u.heap[k]? = w.heap[k]?) (hG : ∀ k, F k → G k) : RefIn G u rb v q where
  hd := (hb _ h.fr).trans h.hd
  row := ⟨h.row.1, by
    rcases h.row.2 with e | ⟨g, cap, cur, h1, h2, h3, h4⟩
    · exact .inl e
    · exact .inr ⟨g, cap, cur, h1, h2, (hb _ (h.fo g (by rw [h1]; rfl))).trans h3, h4⟩⟩
  fr := hG _ h.fr
  fo := fun g hg => hG _ (h.fo g hg)
theorem RefAt.of_lies {X : Nat → Prop} (h : RefAt F w rb q) (hl : Lies X w u) (hX : ∀ k, F k → ¬ X k) : RefAt F u rb q := by
  obtain ⟨hF, v, h⟩ := h
  exact ⟨fun k hk => Nat.lt_of_lt_of_le (hF k hk) hl.size, v, h.of_blocks (fun k hk => hl.block k (hF k hk) (hX k hk)) (fun _ hk => hk)⟩
end
/-- r is where trip k stands; -1 -/
def PlaceIs (l : List Tr) (k : List Value) (r : Int) : Prop := (r = -1 ∧ ∀ t ∈ l, t.k ≠ k) ∨ ∃ (j : Nat) (t : Tr), r = j ∧ l[j]? = some t ∧ t.k = k ∧ ∀ u ∈ l.take j, u.k ≠ k
theorem PlaceIs.hit {l : List Tr} {k : List Value} {r : Int} (h : PlaceIs l k r) {j : Nat} {t : Tr} (ht : l[j]? = some t) (hk : t.k = k) (hno : ∀ u ∈ l.take j, u.k ≠ k) : r = j := by
  rcases h with ⟨_, h⟩ | ⟨i, u, rfl, hu, huk, hn⟩
  · exact (h t (List.mem_of_getElem? ht) hk).elim
  · rcases Nat.lt_trichotomy i j with hl | e | hl
    · exact (hno u (List.mem_of_getElem? (i := i) (by rw [List.getElem?_take_of_lt hl]; exact hu)) huk).elim
    · rw [e]
    · exact (hn t (List.mem_of_getElem? (i := j) (by rw [List.getElem?_take_of_lt hl]; exact ht)) hk).elim
theorem PlaceIs.miss {l : List Tr} {k : List Value} {r : Int} (h : PlaceIs l k r) (hno : ∀ u ∈ l.take l.length, u.k ≠ k) : r = -1 := by
  rw [List.take_length] at hno
  rcases h with ⟨h, _⟩ | ⟨i, u, rfl, hu, huk, hn⟩
  · exact h
  · exact (hno u (List.mem_of_getElem? hu) huk).elim
theorem placeIs_some {q : St} (hq : q.ok) {k : List Value} {j : Nat} {t : Tr} (ht : q.l[j]? = some t) (hk : t.k = k) : PlaceIs q.l k j := by
  refine .inr ⟨j, t, rfl, ht, hk, fun u hu e => ?_⟩
  obtain ⟨i, hi⟩ := List.mem_iff_getElem?.1 hu
  have hij : i < j := by
    have := (List.getElem?_eq_some_iff.1 hi).1
    rw [List.length_take] at this; omega
  rw [List.getElem?_take_of_lt hij] at hi
  have := key_at hq hi ht (e.trans hk.symm)
  omega
section
variable {F : Nat → Prop} {w : World} {rb : Nat} {v : Value} {q : St}
set_option maxRecDepth 20000 in
set_option maxHeartbeats 8000000 in
theorem ref_place (h : RefIn F w rb v q) (hok : ∀ t ∈ q.l, t.ok) (hn : q.l.length ≤ 1048576) (k : List Value) (hk : Bs 16 k) (r : Int) (hr : PlaceIs q.l k r) : Calls Tryz.prog 102 #[.pointer (some ⟨rb, 0, none⟩), .agg k.toArray] w (Gives (.int .i64 r) w) := by
  have HV := Lib.hid h.rowT
  have HC := Lib.hid h.c.1
  have HLT := h.lt
  obtain ⟨ao, cap, ev, _⟩ := h.rowT
  subst ev
  have OK := Lib.hid hok
  have HR := Lib.hid hr
  have HK := Lib.hid hk
  clear h hok hr hk
  have S0 : Bk w [] w := ⟨Below.refl _ w, by simp⟩
  have S := S0.alloc (.cells k.toArray 59)
  clear S0
  have c0 := (S.1.cell (p := ⟨rb, 0, none⟩) HLT).trans HC.out
  go_enter Tryz.func102, Tryz.ntmps102
  go_wp2_with fail
  clear c0
  generalize w.alloc (.cells k.toArray 59) = u1 at *
  obtain ⟨bk, hbk⟩ : ∃ bk, bk = w.heap.size := ⟨_, rfl⟩
  rw [← hbk] at S ⊢
  have HBK := Lib.hid hbk
  clear hbk
  go_loopg [5] q.l.length (fun gk v5 wr => ∃ j : Nat, j + gk = q.l.length ∧ v5 = .int .i64 j ∧ (∀ t ∈ q.l.take j, t.k ≠ k) ∧ Bk w [(bk, .cells k.toArray 59 (0, 0))] wr)
  case atStart => exact ⟨0, by omega, rfl, by simp, S⟩
  case round =>
    clear S
    obtain ⟨j, hj, rfl, hno, S⟩ := hrel
    have HNO := Lib.hid hno
    clear hno
    have c0 := (S.1.cell (p := ⟨rb, 0, none⟩) HLT).trans HC.out
    by_cases hlt : j < q.l.length
    · obtain ⟨t, ht⟩ : ∃ t, q.l[j]? = some t := ⟨_, List.getElem?_eq_getElem hlt⟩
      have htm := List.mem_of_getElem? ht
      have hto := OK.out t htm
      obtain ⟨g, c, e1, T1⟩ := HV.out.get OK.out ht
      cases e1
      have HM := Lib.hid ht
      have HTO := Lib.hid hto
      have HJ := Lib.hid (And.intro hj hlt)
      have HT1 := Lib.hid T1
      clear ht htm hto T1
      go_wp2_with fail
      have CC := Lib.hid c0
      have LR : rb < wr.heap.size := Nat.lt_of_lt_of_le HLT S.1.size
      clear c0
      have hto := HTO.out
      have T1 := HT1.out.below S.1 (Nat.le_refl _)
      have RD : wr.rangeAt bk 0 k := range_sub (S.at (b := bk) (o := .cells k.toArray 59 (0, 0)) (by simp)) 0 (a := []) (z := []) (by simp) rfl
      have LD : bk < wr.heap.size := (Array.getElem?_eq_some_iff.1 (S.at (b := bk) (o := .cells k.toArray 59 (0, 0)) (by simp))).1
      have hd := HK.out
      by_cases ek : t.k = k
      · have NO := Lib.hid ek
        clear ek
        refine wp_region_wq wr.heap.size wr (Below.refl _ wr) (by kernel_rfl) (by kernel_rfl) ?_
        refine WQ.yields (v := .pointer (some ⟨rb, 0, none⟩)) (Or.inl ⟨by rfl, fun z hz => ?_⟩) ?_
        · go_simp
        try simp only [Act.put, List.setIfInBounds_toArray, List.set_cons_zero, List.set_cons_succ]
        refine WQ.yields (v := .pointer (some ⟨rb, 0, none⟩)) (Or.inl ⟨by rfl, fun z hz => ?_⟩) ?_
        · go_simp
        try simp only [Act.put, List.setIfInBounds_toArray, List.set_cons_zero, List.set_cons_succ]
        refine WQ.yields (v := .pointer (some ⟨rb, 0, none⟩)) (Or.inl ⟨by rfl, fun z hz => ?_⟩) ?_
        · go_simp
        try simp only [Act.put, List.setIfInBounds_toArray, List.set_cons_zero, List.set_cons_succ]
        refine WQ.yields (v := .slice (some ⟨g, 0, none⟩) q.l.length cap) (Or.inl ⟨by rfl, fun z hz => ?_⟩) ?_
        · have c := (hz.cell (p := ⟨rb, 0, none⟩) LR).trans CC.out; go_simp
        try simp only [Act.put, List.setIfInBounds_toArray, List.set_cons_zero, List.set_cons_succ]
        refine WQ.yields (v := .int .i64 j) (Or.inl ⟨by rfl, fun z hz => ?_⟩) ?_
        · go_simp
        try simp only [Act.put, List.setIfInBounds_toArray, List.set_cons_zero, List.set_cons_succ]
        refine WQ.yields (v := .pointer (some ⟨g, j * 23, none⟩)) (Or.inl ⟨by rfl, fun z hz => ?_⟩) ?_
        · go_simp
        try simp only [Act.put, List.setIfInBounds_toArray, List.set_cons_zero, List.set_cons_succ]
        refine WQ.yields (v := .pointer (some ⟨g, j * 23, none⟩)) (Or.inl ⟨by rfl, fun z hz => ?_⟩) ?_
        · go_simp
        try simp only [Act.put, List.setIfInBounds_toArray, List.set_cons_zero, List.set_cons_succ]
        refine WQ.yields (v := .agg (t.k).toArray) (y_load (by rfl) 59 _ (by rfl) g (j * 23) (by rfl) (t.k) _ 16 (fun z hz => range_below T1.key hz T1.lt) Tryz.underlying59 rfl size25 hto.k.1) ?_
        try simp only [Act.put, List.setIfInBounds_toArray, List.set_cons_zero, List.set_cons_succ]
        refine WQ.yields (v := .agg (k).toArray) (y_load (by rfl) 59 _ (by rfl) bk (0) (by rfl) (k) _ 16 (fun z hz => range_below RD hz LD) Tryz.underlying59 rfl size25 hd.1) ?_
        try simp only [Act.put, List.setIfInBounds_toArray, List.set_cons_zero, List.set_cons_succ]
        refine WQ.yields (v := .bool true) (y_eq (by rfl) false 59 _ _ _ (by rfl) (t.k).toArray (k).toArray (.bool true) (by rfl) (by rfl) guard25 (eq_jj hto.k hd true ⟨fun _ => NO.out, fun _ => rfl⟩)) ?_
        try simp only [Act.put, List.setIfInBounds_toArray, List.set_cons_zero, List.set_cons_succ]
        refine WQ.nil ?_
        intro z hz2
        have S5 := S.up hz2
        clear S T1 RD LD hz2 hto hd LR CC
        go_wp2_with fail
        have hrj := HR.out.hit HM.out NO.out HNO.out
        subst hrj
        go_ret
        exact gives_of_eq rfl S5.1
      · have NO := Lib.hid ek
        clear ek
        refine wp_region_wq wr.heap.size wr (Below.refl _ wr) (by kernel_rfl) (by kernel_rfl) ?_
        refine WQ.yields (v := .pointer (some ⟨rb, 0, none⟩)) (Or.inl ⟨by rfl, fun z hz => ?_⟩) ?_
        · go_simp
        try simp only [Act.put, List.setIfInBounds_toArray, List.set_cons_zero, List.set_cons_succ]
        refine WQ.yields (v := .pointer (some ⟨rb, 0, none⟩)) (Or.inl ⟨by rfl, fun z hz => ?_⟩) ?_
        · go_simp
        try simp only [Act.put, List.setIfInBounds_toArray, List.set_cons_zero, List.set_cons_succ]
        refine WQ.yields (v := .pointer (some ⟨rb, 0, none⟩)) (Or.inl ⟨by rfl, fun z hz => ?_⟩) ?_
        · go_simp
        try simp only [Act.put, List.setIfInBounds_toArray, List.set_cons_zero, List.set_cons_succ]
        refine WQ.yields (v := .slice (some ⟨g, 0, none⟩) q.l.length cap) (Or.inl ⟨by rfl, fun z hz => ?_⟩) ?_
        · have c := (hz.cell (p := ⟨rb, 0, none⟩) LR).trans CC.out; go_simp
        try simp only [Act.put, List.setIfInBounds_toArray, List.set_cons_zero, List.set_cons_succ]
        refine WQ.yields (v := .int .i64 j) (Or.inl ⟨by rfl, fun z hz => ?_⟩) ?_
        · go_simp
        try simp only [Act.put, List.setIfInBounds_toArray, List.set_cons_zero, List.set_cons_succ]
        refine WQ.yields (v := .pointer (some ⟨g, j * 23, none⟩)) (Or.inl ⟨by rfl, fun z hz => ?_⟩) ?_
        · go_simp
        try simp only [Act.put, List.setIfInBounds_toArray, List.set_cons_zero, List.set_cons_succ]
        refine WQ.yields (v := .pointer (some ⟨g, j * 23, none⟩)) (Or.inl ⟨by rfl, fun z hz => ?_⟩) ?_
        · go_simp
        try simp only [Act.put, List.setIfInBounds_toArray, List.set_cons_zero, List.set_cons_succ]
        refine WQ.yields (v := .agg (t.k).toArray) (y_load (by rfl) 59 _ (by rfl) g (j * 23) (by rfl) (t.k) _ 16 (fun z hz => range_below T1.key hz T1.lt) Tryz.underlying59 rfl size25 hto.k.1) ?_
        try simp only [Act.put, List.setIfInBounds_toArray, List.set_cons_zero, List.set_cons_succ]
        refine WQ.yields (v := .agg (k).toArray) (y_load (by rfl) 59 _ (by rfl) bk (0) (by rfl) (k) _ 16 (fun z hz => range_below RD hz LD) Tryz.underlying59 rfl size25 hd.1) ?_
        try simp only [Act.put, List.setIfInBounds_toArray, List.set_cons_zero, List.set_cons_succ]
        refine WQ.yields (v := .bool false) (y_eq (by rfl) false 59 _ _ _ (by rfl) (t.k).toArray (k).toArray (.bool false) (by rfl) (by rfl) guard25 (eq_jj hto.k hd false ⟨fun e => (by cases e), fun e => (NO.out e).elim⟩)) ?_
        try simp only [Act.put, List.setIfInBounds_toArray, List.set_cons_zero, List.set_cons_succ]
        refine WQ.nil ?_
        intro z hz2
        have S5 := S.up hz2
        clear S T1 RD LD hz2 hto hd LR CC
        go_wp2_with fail
        go_roundg (gk - 1)
        case measure => have := HJ.out; omega
        case rel => exact ⟨j + 1, by have := HJ.out; omega, by have := HJ.out; go_num, take_no (p := fun u => u.k = k) HNO.out HM.out NO.out, S5⟩
    · obtain rfl : j = q.l.length := by omega
      have hrj := HR.out.miss HNO.out
      subst hrj
      go_wp2_with fail
      go_ret
      exact gives_of_eq rfl S.1
end
end Go.Proofs.YtnooghehmgbemaaGreat
