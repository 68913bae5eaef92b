/- Trip: TripEnds: a trip begun anew in plain Lean; busy. -/
import Derived.Test.YtnooghehmgbemaaB27
namespace Go.Proofs.Ytnooghehmgbemaa
open Go.RowKit
set_option linter.unusedVariables false
set_option linter.unusedSimpArgs false

/-! ### a trip begun anew, in plain Lean -/
theorem assign_done {q : St} {tick : Int} {k : List Value} (h : (q.assign tick k).1 = 0) : (q.assign tick k).2 = ⟨tick, q.l ++ [newTr k tick]⟩ ∧ (∀ t ∈ q.l, t.k ≠ k) ∧ (∀ t ∈ q.l, t.on → t.driver ≠ k.drop 8) ∧ 0 ≤ tick ∧ tick ≤ 1099511627776 ∧ q.clock ≤ tick := by
  classical
  unfold St.assign at h ⊢
  by_cases he : atE tick q.clock = 0
  · rw [if_neg (by simpa using he)] at h ⊢
    obtain ⟨t0, t1, t2⟩ := atE_zero he
    split at h
    · cases h
    · next hx =>
      rw [if_neg hx]
      exact ⟨rfl, fun t ht e => hx (.inl ⟨t, ht, e⟩), fun t ht ho e => hx (.inr (.inr ⟨t, ht, ho, e⟩)), t0, t1, t2⟩
  · rw [if_pos he] at h; exact (he h).elim
theorem atE_same {c : Int} (h0 : 0 ≤ c) (h1 : c ≤ 1099511627776) : atE c c = 0 := by unfold atE; rw [if_neg (by omega), if_neg (by omega)]
section
variable {l : List Tr} {u : Tr} {k : List Value} {c : Int}
theorem find_last (hno : ∀ t ∈ l, t.k ≠ k) (hu : u.k = k) : St.find ⟨c, l ++ [u]⟩ k = some u := by
  classical
  unfold St.find
  rw [List.find?_append, List.find?_eq_none.2 (fun t ht => by simpa using hno t ht)]
  simp [hu]
theorem go_last (hno : ∀ t ∈ l, t.k ≠ k) (hu : u.k = k) (h0 : 0 ≤ c) (h1 : c ≤ 1099511627776) {s : Int} (h2 : 2 ≤ s) (h3 : s ≤ 5) (hf : fol u.s s = true) : St.go ⟨c, l ++ [u]⟩ c k s = (0, ⟨c, l ++ [⟨k, s, u.ts.set s.toNat c⟩]⟩) := by
  unfold St.go
  rw [if_neg (by omega), if_neg (by show ¬ atE c c ≠ 0; rw [atE_same h0 h1]; simp), find_last hno hu]
  simp only [hf, if_true]
  have e : l.map (turn k s c) = l := by
    conv => rhs; rw [← List.map_id l]
    exact List.map_congr_left (fun t ht => turn_off (hno t ht) _ _)
  rw [List.map_append, e, List.map_cons, List.map_nil, turn_at hu, hu]
theorem go_last_no (hno : ∀ t ∈ l, t.k ≠ k) (hu : u.k = k) (h0 : 0 ≤ c) (h1 : c ≤ 1099511627776) {s : Int} (h2 : 2 ≤ s) (h3 : s ≤ 5) (hf : fol u.s s = false) : St.go ⟨c, l ++ [u]⟩ c k s = (240, ⟨c, l ++ [u]⟩) := by
  unfold St.go
  rw [if_neg (by omega), if_neg (by show ¬ atE c c ≠ 0; rw [atE_same h0 h1]; simp), find_last hno hu]
  simp only [hf, Bool.false_eq_true, if_false]
theorem assign_last (hu : u.k = k) (h0 : 0 ≤ c) (h1 : c ≤ 1099511627776) : St.assign ⟨c, l ++ [u]⟩ c k = (130, ⟨c, l ++ [u]⟩) := by
  classical
  unfold St.assign
  rw [if_neg (by show ¬ atE c c ≠ 0; rw [atE_same h0 h1]; simp), if_pos (.inl ⟨u, by simp, hu⟩)]
theorem onD_last (hno : ∀ t ∈ l, t.on → t.driver ≠ k.drop 8) (hu : ¬ u.on) : St.onD ⟨c, l ++ [u]⟩ (k.drop 8) = none := by
  classical
  unfold St.onD
  refine List.find?_eq_none.2 fun t ht => ?_
  simp only [decide_eq_true_eq]
  rintro ⟨h1, h2⟩
  rcases List.mem_append.1 ht with h | h
  · exact hno t h h1 h2
  · rw [List.mem_singleton.1 h] at h1; exact hu h1
theorem assign_other {j : List Value} (hno : ∀ t ∈ l, t.on → t.driver ≠ k.drop 8) (hu : ¬ u.on) (hj : j.drop 8 = k.drop 8) (h0 : 0 ≤ c) (h1 : c ≤ 1099511627776) (hf : St.find ⟨c, l ++ [u]⟩ j = none) (hb : ¬ ∃ t ∈ l ++ [u], t.rider = j.take 8 ∧ t.on) : St.assign ⟨c, l ++ [u]⟩ c j = (0, ⟨c, (l ++ [u]) ++ [newTr j c]⟩) := by
  classical
  unfold St.assign
  rw [if_neg (by show ¬ atE c c ≠ 0; rw [atE_same h0 h1]; simp), if_neg]
  rintro (⟨t, ht, e⟩ | ⟨t, ht, ho, e⟩ | ⟨t, ht, ho, e⟩)
  · exact find_none hf t ht e
  · exact hb ⟨t, ht, e, ho⟩
  · rcases List.mem_append.1 ht with h | h
    · exact hno t h ho (e.trans hj)
    · rw [List.mem_singleton.1 h] at ho; exact hu ho
end
/-- the states that a trip is led through, and the trips on the way -/
structure Led (k : List Value) (c : Int) (ws : List Int) (us : Nat → Tr) : Prop where
  first : us 0 = newTr k c
  step : ∀ i s, ws[i]? = some s → 2 ≤ s ∧ s ≤ 5 ∧ fol (us i).s s = true ∧ us (i + 1) = ⟨k, s, (us i).ts.set s.toNat c⟩
  key : ∀ i, i ≤ ws.length → (us i).k = k
  last : (us ws.length).s = 4 ∨ (us ws.length).s = 5
noncomputable def ledU (k : List Value) (c : Int) : List Int → Nat → Tr
  | ws, 0 => newTr k c
  | ws, i + 1 => ⟨k, ws.getD i 0, (ledU k c ws i).ts.set (ws.getD i 0).toNat c⟩
theorem led_a (k : List Value) (c : Int) : Led k c [5] (ledU k c [5]) := by
  refine ⟨rfl, fun i s h => ?_, fun i hi => by cases i <;> rfl, .inr rfl⟩
  match i with
  | 0 => cases h; exact ⟨by decide, by decide, rfl, rfl⟩
  | i + 1 => simp at h
theorem led_b (k : List Value) (c : Int) : Led k c [2, 5] (ledU k c [2, 5]) := by
  refine ⟨rfl, fun i s h => ?_, fun i hi => by cases i <;> rfl, .inr rfl⟩
  match i with
  | 0 => cases h; exact ⟨by decide, by decide, rfl, rfl⟩
  | 1 => cases h; exact ⟨by decide, by decide, rfl, rfl⟩
  | i + 2 => simp at h
theorem led_c (k : List Value) (c : Int) : Led k c [2, 3, 4] (ledU k c [2, 3, 4]) := by
  refine ⟨rfl, fun i s h => ?_, fun i hi => by cases i <;> rfl, .inl rfl⟩
  match i with
  | 0 => cases h; exact ⟨by decide, by decide, rfl, rfl⟩
  | 1 => cases h; exact ⟨by decide, by decide, rfl, rfl⟩
  | 2 => cases h; exact ⟨by decide, by decide, rfl, rfl⟩
  | i + 3 => simp at h
theorem take_no {l : List Tr} {p : Tr → Prop} {j : Nat} {t : Tr} (h : ∀ u ∈ l.take j, ¬ p u) (ht : l[j]? = some t) (hn : ¬ p t) : ∀ u ∈ l.take (j + 1), ¬ p u := by
  intro u hu
  rw [List.take_add_one, ht] at hu
  rcases List.mem_append.1 hu with hu | hu
  · exact h u hu
  · have e : u = t := by simpa using hu
    rw [e]; exact hn
/-! ### busy -/
theorem bk_listed {F : Nat → Prop} {w u : World} {tb : Nat} {q : St} {bs : List (Nat × Obj)} (h : TripsAt F w tb q) (s : Bk w bs u) (hn : q.l.length ≤ 1048576) : Calls Try.prog 10 #[.pointer (some ⟨tb, 0, none⟩)] u fun e w' => ∃ v, e = .returned v ∧ Bk w bs w' ∧ RowT w' v q.l :=
  (list_ok (h.bk s) hn).mono fun e w' ⟨v, he, hb, ho⟩ => ⟨v, he, s.up hb, RowT.of_own ho⟩
set_option maxRecDepth 20000 in
set_option maxHeartbeats 8000000 in
theorem busy_ok {F : Nat → Prop} {w : World} {tb : Nat} {q : St} (h : TripsAt F w tb q) (r : List Value) (hr : Bs 8 r) (hn : q.l.length ≤ 1048576) (b : Bool) (hb : b = true ↔ ∃ t ∈ q.l, t.rider = r ∧ t.on) : Calls Try.prog 19 #[.pointer (some ⟨tb, 0, none⟩), .agg r.toArray] w (Gives (.bool b) w) := by
  have HD := Lib.hid hr
  have HB := Lib.hid hb
  have HQ := Lib.hid h.2.1
  have S0 : Bk w [] w := ⟨Below.refl _ w, by simp⟩
  have S := S0.alloc (.cells r.toArray 23)
  have HL := Lib.hid (fun (u : World) (S : Bk w [(w.heap.size, .cells r.toArray 23 (0, 0))] u) => bk_listed h S hn)
  clear S0 h hr hb
  go_enter Try.func19, Try.ntmps19
  go_wp2_with fail
  refine (HL.out _ S).mono ?_
  clear S HL
  rintro e w2 ⟨v, rfl, S, hv⟩
  generalize w.heap.size = bd at *
  have HV := Lib.hid hv
  obtain ⟨ao, cap, ev, _⟩ := hv
  subst ev
  go_wp2_with fail
  go_loopg [6] q.l.length (fun gk v6 wr => ∃ j : Nat, j + gk = q.l.length ∧ v6 = .int .i64 j ∧ (∀ t ∈ q.l.take j, ¬ (t.rider = r ∧ t.on)) ∧ Below w2.heap.size w2 wr ∧ Bk w [(bd, .cells r.toArray 23 (0, 0))] wr)
  case atStart => exact ⟨0, by omega, rfl, by simp, Below.refl _ _, S⟩
  case round =>
    clear S
    obtain ⟨j, hj, rfl, hno, hz, S⟩ := hrel
    have HNO := Lib.hid hno
    clear hno
    by_cases hlt : j < q.l.length
    · obtain ⟨t, ht⟩ : ∃ t, q.l[j]? = some t := ⟨_, List.getElem?_eq_getElem hlt⟩
      have htm := List.mem_of_getElem? ht
      have hto := HQ.out.ok t htm
      obtain ⟨g, c, e1, T1⟩ := HV.out.get HQ.out.ok ht
      cases e1
      have HM := Lib.hid ht
      have HTM := Lib.hid htm
      have HTO := Lib.hid hto
      have HJ := Lib.hid (And.intro hj hlt)
      have HT1 := Lib.hid T1
      clear ht htm hto T1
      go_wp2_with fail
      have hto := HTO.out
      have T1 := HT1.out.below hz (Nat.le_refl _)
      have RD : wr.rangeAt bd 0 r := range_sub (S.at (b := bd) (o := .cells r.toArray 23 (0, 0)) (by simp)) 0 (a := []) (z := []) (by simp) rfl
      have LD : bd < wr.heap.size := (Array.getElem?_eq_some_iff.1 (S.at (b := bd) (o := .cells r.toArray 23 (0, 0)) (by simp))).1
      have hd := HD.out
      by_cases odr : t.rider = r
      · have NO := Lib.hid odr
        clear odr
        by_cases ot : t.on
        · have et : t.endB = false := endB_on.2 ot
          refine wp_region_wq wr.heap.size wr (Below.refl _ wr) (by kernel_rfl) (by kernel_rfl) ?_
          refine WQ.yields (v := .slice (some ⟨g, 0, none⟩) q.l.length cap) (Or.inl ⟨by rfl, fun z hz => ?_⟩) ?_
          · go_simp
          try simp only [Act.put, List.setIfInBounds_toArray, List.set_cons_zero, List.set_cons_succ]
          refine WQ.yields (v := .int .i64 j) (Or.inl ⟨by rfl, fun z hz => ?_⟩) ?_
          · go_simp
          try simp only [Act.put, List.setIfInBounds_toArray, List.set_cons_zero, List.set_cons_succ]
          refine WQ.yields (v := .pointer (some ⟨g, j * 23, none⟩)) (Or.inl ⟨by rfl, fun z hz => ?_⟩) ?_
          · go_simp
          try simp only [Act.put, List.setIfInBounds_toArray, List.set_cons_zero, List.set_cons_succ]
          refine WQ.yields (v := .pointer (some ⟨g, j * 23, none⟩)) (Or.inl ⟨by rfl, fun z hz => ?_⟩) ?_
          · go_simp
          try simp only [Act.put, List.setIfInBounds_toArray, List.set_cons_zero, List.set_cons_succ]
          refine WQ.yields (v := .pointer (some ⟨g, j * 23, none⟩)) (Or.inl ⟨by rfl, fun z hz => ?_⟩) ?_
          · go_simp
          try simp only [Act.put, List.setIfInBounds_toArray, List.set_cons_zero, List.set_cons_succ]
          refine WQ.yields (v := .agg (t.rider).toArray) (y_load (by rfl) 23 _ (by rfl) g (j * 23) (by rfl) (t.rider) _ 8 (fun z hz => range_below T1.rider hz T1.lt) Try.underlying23 rfl size23 hto.bk.1.1) ?_
          try simp only [Act.put, List.setIfInBounds_toArray, List.set_cons_zero, List.set_cons_succ]
          refine WQ.yields (v := .agg (r).toArray) (y_load (by rfl) 23 _ (by rfl) bd (0) (by rfl) (r) _ 8 (fun z hz => range_below RD hz LD) Try.underlying23 rfl size23 hd.1) ?_
          try simp only [Act.put, List.setIfInBounds_toArray, List.set_cons_zero, List.set_cons_succ]
          refine WQ.yields (v := .bool true) (y_eq (by rfl) false 23 _ _ _ (by rfl) (t.rider).toArray (r).toArray (.bool true) (by rfl) (by rfl) guard23 (eq_ii hto.bk.1 hd true ⟨fun _ => NO.out, fun _ => rfl⟩)) ?_
          try simp only [Act.put, List.setIfInBounds_toArray, List.set_cons_zero, List.set_cons_succ]
          refine WQ.yields (v := .bool true) (Or.inl ⟨by rfl, fun z hz => ?_⟩) ?_
          · go_simp
          try simp only [Act.put, List.setIfInBounds_toArray, List.set_cons_zero, List.set_cons_succ]
          refine WQ.yields (v := .slice (some ⟨g, 0, none⟩) q.l.length cap) (Or.inl ⟨by rfl, fun z hz => ?_⟩) ?_
          · go_simp
          try simp only [Act.put, List.setIfInBounds_toArray, List.set_cons_zero, List.set_cons_succ]
          refine WQ.yields (v := .int .i64 j) (Or.inl ⟨by rfl, fun z hz => ?_⟩) ?_
          · go_simp
          try simp only [Act.put, List.setIfInBounds_toArray, List.set_cons_zero, List.set_cons_succ]
          refine WQ.yields (v := .pointer (some ⟨g, j * 23, none⟩)) (Or.inl ⟨by rfl, fun z hz => ?_⟩) ?_
          · go_simp
          try simp only [Act.put, List.setIfInBounds_toArray, List.set_cons_zero, List.set_cons_succ]
          refine WQ.yields (v := .agg (t.cells).toArray) (y_load (by rfl) 40 _ (by rfl) g (j * 23) (by rfl) (t.cells) _ 23 (fun z hz => range_below T1.all hz T1.lt) Try.underlying40 rfl size40 hto.length) ?_
          try simp only [Act.put, List.setIfInBounds_toArray, List.set_cons_zero, List.set_cons_succ]
          refine WQ.calls (by rfl) (v := .bool false) (f := 18) (args := #[.agg (t.cells).toArray]) (fun z hz => by go_simp) (fun z hz => gives_below hz (Nat.le_refl _) (endB_t t hto false et z)) ?_
          try simp only [Act.put, List.setIfInBounds_toArray, List.set_cons_zero, List.set_cons_succ]
          refine WQ.yields (v := .bool true) (Or.inl ⟨by rfl, fun z hz => ?_⟩) ?_
          · go_simp
          try simp only [Act.put, List.setIfInBounds_toArray, List.set_cons_zero, List.set_cons_succ]
          refine WQ.yields (v := .bool true) (Or.inl ⟨by rfl, fun z hz => ?_⟩) ?_
          · go_simp
          try simp only [Act.put, List.setIfInBounds_toArray, List.set_cons_zero, List.set_cons_succ]
          refine WQ.nil ?_
          intro z hz2
          have S5 := S.up hz2
          have hz5 := hz.trans (hz2.mono hz.size)
          clear S T1 RD LD hz2 hto hd hz
          go_wp2_with fail
          have hbt : b = true := HB.out.2 ⟨t, HTM.out, NO.out, ot⟩
          subst hbt
          go_ret
          exact gives_of_eq rfl S5.1
        · have et : t.endB = true := by
            cases he : t.endB with
            | true => rfl
            | false => exact (ot (endB_on.1 he)).elim
          refine wp_region_wq wr.heap.size wr (Below.refl _ wr) (by kernel_rfl) (by kernel_rfl) ?_
          refine WQ.yields (v := .slice (some ⟨g, 0, none⟩) q.l.length cap) (Or.inl ⟨by rfl, fun z hz => ?_⟩) ?_
          · go_simp
          try simp only [Act.put, List.setIfInBounds_toArray, List.set_cons_zero, List.set_cons_succ]
          refine WQ.yields (v := .int .i64 j) (Or.inl ⟨by rfl, fun z hz => ?_⟩) ?_
          · go_simp
          try simp only [Act.put, List.setIfInBounds_toArray, List.set_cons_zero, List.set_cons_succ]
          refine WQ.yields (v := .pointer (some ⟨g, j * 23, none⟩)) (Or.inl ⟨by rfl, fun z hz => ?_⟩) ?_
          · go_simp
          try simp only [Act.put, List.setIfInBounds_toArray, List.set_cons_zero, List.set_cons_succ]
          refine WQ.yields (v := .pointer (some ⟨g, j * 23, none⟩)) (Or.inl ⟨by rfl, fun z hz => ?_⟩) ?_
          · go_simp
          try simp only [Act.put, List.setIfInBounds_toArray, List.set_cons_zero, List.set_cons_succ]
          refine WQ.yields (v := .pointer (some ⟨g, j * 23, none⟩)) (Or.inl ⟨by rfl, fun z hz => ?_⟩) ?_
          · go_simp
          try simp only [Act.put, List.setIfInBounds_toArray, List.set_cons_zero, List.set_cons_succ]
          refine WQ.yields (v := .agg (t.rider).toArray) (y_load (by rfl) 23 _ (by rfl) g (j * 23) (by rfl) (t.rider) _ 8 (fun z hz => range_below T1.rider hz T1.lt) Try.underlying23 rfl size23 hto.bk.1.1) ?_
          try simp only [Act.put, List.setIfInBounds_toArray, List.set_cons_zero, List.set_cons_succ]
          refine WQ.yields (v := .agg (r).toArray) (y_load (by rfl) 23 _ (by rfl) bd (0) (by rfl) (r) _ 8 (fun z hz => range_below RD hz LD) Try.underlying23 rfl size23 hd.1) ?_
          try simp only [Act.put, List.setIfInBounds_toArray, List.set_cons_zero, List.set_cons_succ]
          refine WQ.yields (v := .bool true) (y_eq (by rfl) false 23 _ _ _ (by rfl) (t.rider).toArray (r).toArray (.bool true) (by rfl) (by rfl) guard23 (eq_ii hto.bk.1 hd true ⟨fun _ => NO.out, fun _ => rfl⟩)) ?_
          try simp only [Act.put, List.setIfInBounds_toArray, List.set_cons_zero, List.set_cons_succ]
          refine WQ.yields (v := .bool true) (Or.inl ⟨by rfl, fun z hz => ?_⟩) ?_
          · go_simp
          try simp only [Act.put, List.setIfInBounds_toArray, List.set_cons_zero, List.set_cons_succ]
          refine WQ.yields (v := .slice (some ⟨g, 0, none⟩) q.l.length cap) (Or.inl ⟨by rfl, fun z hz => ?_⟩) ?_
          · go_simp
          try simp only [Act.put, List.setIfInBounds_toArray, List.set_cons_zero, List.set_cons_succ]
          refine WQ.yields (v := .int .i64 j) (Or.inl ⟨by rfl, fun z hz => ?_⟩) ?_
          · go_simp
          try simp only [Act.put, List.setIfInBounds_toArray, List.set_cons_zero, List.set_cons_succ]
          refine WQ.yields (v := .pointer (some ⟨g, j * 23, none⟩)) (Or.inl ⟨by rfl, fun z hz => ?_⟩) ?_
          · go_simp
          try simp only [Act.put, List.setIfInBounds_toArray, List.set_cons_zero, List.set_cons_succ]
          refine WQ.yields (v := .agg (t.cells).toArray) (y_load (by rfl) 40 _ (by rfl) g (j * 23) (by rfl) (t.cells) _ 23 (fun z hz => range_below T1.all hz T1.lt) Try.underlying40 rfl size40 hto.length) ?_
          try simp only [Act.put, List.setIfInBounds_toArray, List.set_cons_zero, List.set_cons_succ]
          refine WQ.calls (by rfl) (v := .bool true) (f := 18) (args := #[.agg (t.cells).toArray]) (fun z hz => by go_simp) (fun z hz => gives_below hz (Nat.le_refl _) (endB_t t hto true et z)) ?_
          try simp only [Act.put, List.setIfInBounds_toArray, List.set_cons_zero, List.set_cons_succ]
          refine WQ.yields (v := .bool false) (Or.inl ⟨by rfl, fun z hz => ?_⟩) ?_
          · go_simp
          try simp only [Act.put, List.setIfInBounds_toArray, List.set_cons_zero, List.set_cons_succ]
          refine WQ.yields (v := .bool false) (Or.inl ⟨by rfl, fun z hz => ?_⟩) ?_
          · go_simp
          try simp only [Act.put, List.setIfInBounds_toArray, List.set_cons_zero, List.set_cons_succ]
          refine WQ.nil ?_
          intro z hz2
          have S5 := S.up hz2
          have hz5 := hz.trans (hz2.mono hz.size)
          clear S T1 RD LD hz2 hto hd hz
          go_wp2_with fail
          go_roundg (gk - 1)
          case measure => have := HJ.out; omega
          case rel => exact ⟨j + 1, by have := HJ.out; omega, by have := HJ.out; go_num, take_no HNO.out HM.out (fun e => ot e.2), hz5, S5⟩
      · have NO := Lib.hid odr
        clear odr
        refine wp_region_wq wr.heap.size wr (Below.refl _ wr) (by kernel_rfl) (by kernel_rfl) ?_
        refine WQ.yields (v := .slice (some ⟨g, 0, none⟩) q.l.length cap) (Or.inl ⟨by rfl, fun z hz => ?_⟩) ?_
        · go_simp
        try simp only [Act.put, List.setIfInBounds_toArray, List.set_cons_zero, List.set_cons_succ]
        refine WQ.yields (v := .int .i64 j) (Or.inl ⟨by rfl, fun z hz => ?_⟩) ?_
        · go_simp
        try simp only [Act.put, List.setIfInBounds_toArray, List.set_cons_zero, List.set_cons_succ]
        refine WQ.yields (v := .pointer (some ⟨g, j * 23, none⟩)) (Or.inl ⟨by rfl, fun z hz => ?_⟩) ?_
        · go_simp
        try simp only [Act.put, List.setIfInBounds_toArray, List.set_cons_zero, List.set_cons_succ]
        refine WQ.yields (v := .pointer (some ⟨g, j * 23, none⟩)) (Or.inl ⟨by rfl, fun z hz => ?_⟩) ?_
        · go_simp
        try simp only [Act.put, List.setIfInBounds_toArray, List.set_cons_zero, List.set_cons_succ]
        refine WQ.yields (v := .pointer (some ⟨g, j * 23, none⟩)) (Or.inl ⟨by rfl, fun z hz => ?_⟩) ?_
        · go_simp
        try simp only [Act.put, List.setIfInBounds_toArray, List.set_cons_zero, List.set_cons_succ]
        refine WQ.yields (v := .agg (t.rider).toArray) (y_load (by rfl) 23 _ (by rfl) g (j * 23) (by rfl) (t.rider) _ 8 (fun z hz => range_below T1.rider hz T1.lt) Try.underlying23 rfl size23 hto.bk.1.1) ?_
        try simp only [Act.put, List.setIfInBounds_toArray, List.set_cons_zero, List.set_cons_succ]
        refine WQ.yields (v := .agg (r).toArray) (y_load (by rfl) 23 _ (by rfl) bd (0) (by rfl) (r) _ 8 (fun z hz => range_below RD hz LD) Try.underlying23 rfl size23 hd.1) ?_
        try simp only [Act.put, List.setIfInBounds_toArray, List.set_cons_zero, List.set_cons_succ]
        refine WQ.yields (v := .bool false) (y_eq (by rfl) false 23 _ _ _ (by rfl) (t.rider).toArray (r).toArray (.bool false) (by rfl) (by rfl) guard23 (eq_ii hto.bk.1 hd false ⟨fun e => (by cases e), fun e => (NO.out e).elim⟩)) ?_
        try simp only [Act.put, List.setIfInBounds_toArray, List.set_cons_zero, List.set_cons_succ]
        refine WQ.yields (v := .bool false) (Or.inl ⟨by rfl, fun z hz => ?_⟩) ?_
        · go_simp
        try simp only [Act.put, List.setIfInBounds_toArray, List.set_cons_zero, List.set_cons_succ]
        refine WQ.skip (by rfl) ?_
        try simp only [Act.put, List.setIfInBounds_toArray, List.set_cons_zero, List.set_cons_succ]
        refine WQ.skip (by rfl) ?_
        try simp only [Act.put, List.setIfInBounds_toArray, List.set_cons_zero, List.set_cons_succ]
        refine WQ.skip (by rfl) ?_
        try simp only [Act.put, List.setIfInBounds_toArray, List.set_cons_zero, List.set_cons_succ]
        refine WQ.skip (by rfl) ?_
        try simp only [Act.put, List.setIfInBounds_toArray, List.set_cons_zero, List.set_cons_succ]
        refine WQ.skip (by rfl) ?_
        try simp only [Act.put, List.setIfInBounds_toArray, List.set_cons_zero, List.set_cons_succ]
        refine WQ.skip (by rfl) ?_
        try simp only [Act.put, List.setIfInBounds_toArray, List.set_cons_zero, List.set_cons_succ]
        refine WQ.yields (v := .bool false) (Or.inl ⟨by rfl, fun z hz => ?_⟩) ?_
        · go_simp
        try simp only [Act.put, List.setIfInBounds_toArray, List.set_cons_zero, List.set_cons_succ]
        refine WQ.nil ?_
        intro z hz2
        have S5 := S.up hz2
        have hz5 := hz.trans (hz2.mono hz.size)
        clear S T1 RD LD hz2 hto hd hz
        go_wp2_with fail
        go_roundg (gk - 1)
        case measure => have := HJ.out; omega
        case rel => exact ⟨j + 1, by have := HJ.out; omega, by have := HJ.out; go_num, take_no HNO.out HM.out (fun e => NO.out e.1), hz5, S5⟩
    · obtain rfl : j = q.l.length := by omega
      have hbf : b = false := by
        cases hb : b with
        | false => rfl
        | true =>
          obtain ⟨t, ht, e⟩ := HB.out.1 hb
          exact (HNO.out t (by rw [List.take_length]; exact ht) e).elim
      subst hbf
      go_wp2_with fail
      go_ret
      exact gives_of_eq rfl S.1
end Go.Proofs.Ytnooghehmgbemaa
