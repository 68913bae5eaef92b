/- Trip: told. -/
import Derived.Test.YtnooghehmgbemaaB24
namespace Go.Proofs.Ytnooghehmgbemaa
open Go.RowKit
set_option linter.unusedVariables false
set_option linter.unusedSimpArgs false

def ZT : Tr := ⟨Z25.toList, 0, [0, 0, 0, 0, 0, 0]⟩
theorem zt_ok : ZT.ok := ⟨⟨rfl, fun u hu => by
  simp only [ZT, Z25, List.mem_cons, List.not_mem_nil, or_false] at hu
  rcases hu with rfl | rfl | rfl | rfl | rfl | rfl | rfl | rfl | rfl | rfl | rfl | rfl | rfl | rfl | rfl | rfl <;> exact ⟨_, rfl, by decide⟩⟩, (by decide : (Lit.int .u8 0).wf = true), rfl, (by decide : ∀ x ∈ ([0, 0, 0, 0, 0, 0] : List Int), (Lit.int .i64 x).wf = true)⟩
theorem eql_z (w : World) : (binOp .eql 40 (.agg Z40) (.agg Z40)).run Try.prog w = .ok (.bool true) w := eql_same zt_ok w
theorem Bk.sub {w0 u : World} {bs cs : List (Nat × Obj)} (s : Bk w0 bs u) (h : ∀ p ∈ cs, p ∈ bs) : Bk w0 cs u := ⟨s.1, fun p hp => s.2 p (h p hp)⟩
theorem box_in {u : World} {b : Nat} {t : Tr} (ht : t.ok) (hb : u.heap[b]? = some (.cells t.cells.toArray 40 (0, 0))) : TripIn u b 0 t := by
  have h : RowT u (.slice (some ⟨b, 0, none⟩) 1 1) [t] := ⟨some ⟨b, 0, none⟩, 1, rfl, fun _ => ⟨b, t.cells.toArray, rfl, hb, by simp; rw [List.take_of_length_le (by rw [ht.length]; exact Nat.le_refl _)]⟩⟩
  obtain ⟨g, cap, e, h1⟩ := h.get (i := 0) (t := t) (fun x hx => by rw [List.mem_singleton.1 hx]; exact ht) rfl
  injection e with e _ _; injection e with e; injection e with e; subst e
  exact h1
theorem zt_cells : ZT.cells.toArray = Z40 := by kernel_rfl
/-- what Of answers, in one -/
theorem onD_one_of {q : St} (hq : q.ok) (d : List Value) : ∃ (X : Tr) (ob : Bool), X.ok ∧ tripV (q.onD d) = .tuple #[.agg X.cells.toArray, .bool ob] ∧ (∀ t ∈ q.l, t.on → t.driver = d → X = t ∧ ob = true) ∧ (ob = true → ∃ t ∈ q.l, t.on ∧ t.driver = d) ∧ (ob = false → X = ZT) := by
  cases h : q.onD d with
  | none => exact ⟨ZT, false, zt_ok, by rw [zt_cells]; rfl, fun t ht ho e => (onD_none h t ht ho e).elim, fun e => (by cases e), fun _ => rfl⟩
  | some t =>
    obtain ⟨h1, h2, h3⟩ := onD_some h
    exact ⟨t, true, hq.ok t h1, rfl, fun u hu ho e => ⟨hq.ud t h1 u hu h2 ho (h3.trans e.symm), rfl⟩, fun _ => ⟨t, h1, h2, h3⟩, fun e => (by cases e)⟩
theorem TripsAt.bk {F : Nat → Prop} {w u : World} {tb : Nat} {q : St} {bs : List (Nat × Obj)} (h : TripsAt F w tb q) (s : Bk w bs u) : TripsAt F u tb q := h.of_lies (X := fun _ => False) (Lies.of_below s.1) (fun _ _ => id)
theorem RowT.bk {w u : World} {v : Value} {l : List Tr} {bs : List (Nat × Obj)} (h : RowT w v l) (s : Bk w bs u) : RowT u v l := h.below s.1 (Nat.le_refl _)
/-- is one of the first j trips on, with driver d -/
def OnIn (l : List Tr) (d : List Value) (j : Nat) (b : Bool) : Prop := b = true ↔ ∃ t ∈ l.take j, t.on ∧ t.driver = d
theorem onIn_step {l : List Tr} {d : List Value} {j : Nat} {b : Bool} {t : Tr} (h : OnIn l d j b) (ht : l[j]? = some t) (hno : ¬ (t.on ∧ t.driver = d)) : OnIn l d (j + 1) b := by
  unfold OnIn at h ⊢
  rw [h, List.take_add_one, ht]
  simp only [Option.toList_some, List.mem_append, List.mem_singleton]
  exact ⟨fun ⟨u, hu, g⟩ => ⟨u, .inl hu, g⟩, fun ⟨u, hu, g⟩ => hu.elim (fun hu => ⟨u, hu, g⟩) (fun e => (hno (e ▸ g)).elim)⟩
theorem onIn_hit {l : List Tr} {d : List Value} {j : Nat} {t : Tr} (ht : l[j]? = some t) (hy : t.on ∧ t.driver = d) : OnIn l d (j + 1) true := by
  refine ⟨fun _ => ⟨t, ?_, hy⟩, fun _ => rfl⟩
  rw [List.take_add_one, ht]
  simp
set_option maxRecDepth 20000 in
set_option maxHeartbeats 8000000 in
theorem told_ok {F : Nat → Prop} {w : World} {tb : Nat} {q : St} (h : TripsAt F w tb q) (d : List Value) (hd : Bs 8 d) (hn : q.l.length ≤ 1048576) (v : Value) (hv : RowT w v q.l) : Calls Try.prog 16 #[.pointer (some ⟨tb, 0, none⟩), v, .agg d.toArray] w (Gives (.bool true) w) := by
  have hq := h.2.1
  obtain ⟨X, ob, hX, eX, oX, yX, zX⟩ := onD_one_of hq d
  have HT := Lib.hid h
  have HQ := Lib.hid hq
  have HX := Lib.hid hX
  have OX := Lib.hid oX
  have YX := Lib.hid yX
  have ZX := Lib.hid zX
  have HD := Lib.hid hd
  have HV := Lib.hid hv
  have hOf : ∀ (u : World) (bs : List (Nat × Obj)), Bk w bs u → Calls Try.prog 9 #[.pointer (some ⟨tb, 0, none⟩), .agg d.toArray] u fun e w' => e = .returned (.tuple #[.agg X.cells.toArray, .bool ob]) ∧ Bk w bs w' := fun u bs S => by
    have := of_ok (h.bk S) d hd
    rw [eX] at this
    exact S.gives this
  have HOf := Lib.hid hOf
  have hGet : ∀ (u : World) (bs : List (Nat × Obj)) (t : Tr), Bk w bs u → t ∈ q.l → Calls Try.prog 8 #[.pointer (some ⟨tb, 0, none⟩), .agg t.k.toArray] u fun e w' => e = .returned (.tuple #[.agg t.cells.toArray, .bool true]) ∧ Bk w bs w' := fun u bs t S ht => by
    have := get_ok (h.bk S) t.k (hq.ok t ht).k
    rw [find_mem hq ht] at this
    exact S.gives this
  have HGet := Lib.hid hGet
  obtain ⟨ao, cap, ev, _⟩ := hv
  subst ev
  clear h hq hX eX oX yX zX hd hOf hGet
  have S0 : Bk w [] w := ⟨Below.refl _ w, by simp⟩
  have S := S0.alloc (.cells d.toArray 23)
  clear S0
  go_enter Try.func16, Try.ntmps16
  have q5 := S.at (b := w.heap.size) (o := .cells d.toArray 23 (0, 0)) (by simp)
  go_wp2_with (refine wpList_loadrow_g (by rfl) 23 _ (by rfl) w.heap.size (by rfl) d.toArray 23 _ q5 Try.underlying23 rfl (by rw [List.size_toArray, HD.out.1]; exact size23) ?_)
  clear q5
  generalize w.alloc (.cells d.toArray 23) = u1 at *
  generalize w.heap.size = bd at *
  refine (HOf.out u1 _ S).mono ?_
  clear S
  rintro e w2 ⟨rfl, S⟩
  have T2 := S.box Z40 X.cells.toArray 40
  have hlx := HX.out.length
  have hox := all_oneCell_toArray HX.out.one
  go_wp2_with (first | (refine wpList_allocz rfl 40 (by rfl) Z40 23 zero40 ?_) | (refine wpList_storerow rfl 40 _ _ (by rfl) w2.heap.size (by rfl) Z40 X.cells.toArray (by rfl) (heap_last w2 _) (by rw [List.size_toArray, hlx]; exact size40) (by rw [z40s, List.size_toArray, hlx]) hox ?_))
  clear S hlx hox
  have S := T2
  clear T2
  generalize (w2.alloc (.cells Z40 40)).setRow w2.heap.size X.cells.toArray = u2 at *
  generalize w2.heap.size = bx at *
  go_loopg [9, 10] q.l.length (fun gk v9 v10 wr => ∃ (j : Nat) (ib : Bool), j + gk = q.l.length ∧ v9 = .bool ib ∧ v10 = .int .i64 j ∧ OnIn q.l d j ib ∧ Bk w [(bx, .cells X.cells.toArray 40 (0, 0)), (bd, .cells d.toArray 23 (0, 0))] wr)
  case atStart => exact ⟨0, false, by omega, rfl, rfl, by simp [OnIn], S⟩
  case round =>
    clear S
    obtain ⟨j, ib, hj, rfl, rfl, hib, S⟩ := hrel
    have HI := Lib.hid hib
    clear hib
    by_cases hlt : j < q.l.length
    · obtain ⟨t, ht⟩ : ∃ t, q.l[j]? = some t := ⟨_, List.getElem?_eq_getElem hlt⟩
      have htm := List.mem_of_getElem? ht
      have hto := HQ.out.ok t htm
      obtain ⟨g, c, e1, T1⟩ := HV.out.get HQ.out.ok ht
      cases e1
      have T0 := T1
      replace T1 := T1.below S.1 (Nat.le_refl _)
      have TT := Lib.hid T0
      have HM := Lib.hid ht
      have HTM := Lib.hid htm
      have HTO := Lib.hid hto
      have HJ := Lib.hid (And.intro hj hlt)
      have rk := T1.key
      clear T0 T1 ht htm hto
      go_wp2_with (refine wpList_loadmid_g (by rfl) 25 _ (by rfl) g (j * 23) (by rfl) t.k _ rk Try.underlying25 rfl (by rw [HTO.out.k.1]; exact size25) ?_)
      clear rk
      refine (HGet.out wr _ t S HTM.out).mono ?_
      clear S
      rintro e w3 ⟨rfl, S⟩
      have T3 := S.box Z40 t.cells.toArray 40
      have hlx := HTO.out.length
      have hox := all_oneCell_toArray HTO.out.one
      go_wp2_with (first | (refine wpList_allocz rfl 40 (by rfl) Z40 23 zero40 ?_) | (refine wpList_storerow rfl 40 _ _ (by rfl) w3.heap.size (by rfl) Z40 t.cells.toArray (by rfl) (heap_last w3 _) (by rw [List.size_toArray, hlx]; exact size40) (by rw [z40s, List.size_toArray, hlx]) hox ?_))
      clear S hlx hox
      have S := T3
      clear T3
      generalize (w3.alloc (.cells Z40 40)).setRow w3.heap.size t.cells.toArray = u3 at *
      generalize w3.heap.size = bn at *
      have hto := HTO.out
      have T1 := TT.out.below S.1 (Nat.le_refl _)
      have TB := box_in hto (S.at (b := bn) (by simp))
      refine wp_region_wq u3.heap.size u3 (Below.refl _ u3) (by kernel_rfl) (by kernel_rfl) ?_
      refine WQ.yields (v := .bool true) (Or.inl ⟨by rfl, fun z hz => ?_⟩) ?_
      · go_simp
      try simp only [Act.put, List.setIfInBounds_toArray, List.set_cons_zero, List.set_cons_succ]
      refine WQ.yields (v := .bool false) (Or.inl ⟨by rfl, fun z hz => ?_⟩) ?_
      · go_simp
      try simp only [Act.put, List.setIfInBounds_toArray, List.set_cons_zero, List.set_cons_succ]
      refine WQ.yields (v := .bool false) (Or.inl ⟨by rfl, fun z hz => ?_⟩) ?_
      · go_simp
      try simp only [Act.put, List.setIfInBounds_toArray, List.set_cons_zero, List.set_cons_succ]
      refine WQ.yields (v := .agg (t.cells).toArray) (y_load (by rfl) 40 _ (by rfl) bn (0) (by rfl) (t.cells) _ 23 (fun z hz => range_below TB.all hz TB.lt) Try.underlying40 rfl size40 hto.length) ?_
      try simp only [Act.put, List.setIfInBounds_toArray, List.set_cons_zero, List.set_cons_succ]
      refine WQ.yields (v := .slice (some ⟨g, 0, none⟩) q.l.length cap) (Or.inl ⟨by rfl, fun z hz => ?_⟩) ?_
      · go_simp
      try simp only [Act.put, List.setIfInBounds_toArray, List.set_cons_zero, List.set_cons_succ]
      refine WQ.yields (v := .int .i64 j) (Or.inl ⟨by rfl, fun z hz => ?_⟩) ?_
      · go_simp
      try simp only [Act.put, List.setIfInBounds_toArray, List.set_cons_zero, List.set_cons_succ]
      refine WQ.yields (v := .pointer (some ⟨g, j * 23, none⟩)) (Or.inl ⟨by rfl, fun z hz => ?_⟩) ?_
      · go_simp
      try simp only [Act.put, List.setIfInBounds_toArray, List.set_cons_zero, List.set_cons_succ]
      refine WQ.yields (v := .agg (t.cells).toArray) (y_load (by rfl) 40 _ (by rfl) g (j * 23) (by rfl) (t.cells) _ 23 (fun z hz => range_below T1.all hz T1.lt) Try.underlying40 rfl size40 hto.length) ?_
      try simp only [Act.put, List.setIfInBounds_toArray, List.set_cons_zero, List.set_cons_succ]
      refine WQ.yields (v := .bool false) (y_eq (by rfl) true 40 _ _ _ (by rfl) (t.cells).toArray (t.cells).toArray (.bool false) (by rfl) (by rfl) guard40 (ne_tt hto hto false ⟨fun _ => rfl, fun _ => rfl⟩)) ?_
      try simp only [Act.put, List.setIfInBounds_toArray, List.set_cons_zero, List.set_cons_succ]
      refine WQ.yields (v := .bool false) (Or.inl ⟨by rfl, fun z hz => ?_⟩) ?_
      · go_simp
      try simp only [Act.put, List.setIfInBounds_toArray, List.set_cons_zero, List.set_cons_succ]
      refine WQ.nil ?_
      intro z4 hz4
      have S4 := S.up hz4
      clear S T1 TB hz4 hto
      go_wp2_with fail
      have hto := HTO.out
      have T1 := TT.out.below S4.1 (Nat.le_refl _)
      have RD : z4.rangeAt bd 0 d := range_sub (S4.at (b := bd) (o := .cells d.toArray 23 (0, 0)) (by simp)) 0 (a := []) (z := []) (by simp) rfl
      have LD : bd < z4.heap.size := (Array.getElem?_eq_some_iff.1 (S4.at (b := bd) (o := .cells d.toArray 23 (0, 0)) (by simp))).1
      have hd := HD.out
      by_cases ot : t.on
      · have et : t.endB = false := endB_on.2 ot
        by_cases odr : t.driver = d
        · have NO := Lib.hid odr
          clear odr
          refine wp_region_wq z4.heap.size z4 (Below.refl _ z4) (by kernel_rfl) (by kernel_rfl) ?_
          refine WQ.yields (v := .slice (some ⟨g, 0, none⟩) q.l.length cap) (Or.inl ⟨by rfl, fun z hz => ?_⟩) ?_
          · go_simp
          try simp only [Act.put, List.setIfInBounds_toArray, List.set_cons_zero, List.set_cons_succ]
          refine WQ.yields (v := .int .i64 j) (Or.inl ⟨by rfl, fun z hz => ?_⟩) ?_
          · go_simp
          try simp only [Act.put, List.setIfInBounds_toArray, List.set_cons_zero, List.set_cons_succ]
          refine WQ.yields (v := .pointer (some ⟨g, j * 23, none⟩)) (Or.inl ⟨by rfl, fun z hz => ?_⟩) ?_
          · go_simp
          try simp only [Act.put, List.setIfInBounds_toArray, List.set_cons_zero, List.set_cons_succ]
          refine WQ.yields (v := .agg (t.cells).toArray) (y_load (by rfl) 40 _ (by rfl) g (j * 23) (by rfl) (t.cells) _ 23 (fun z hz => range_below T1.all hz T1.lt) Try.underlying40 rfl size40 hto.length) ?_
          try simp only [Act.put, List.setIfInBounds_toArray, List.set_cons_zero, List.set_cons_succ]
          refine WQ.calls (by rfl) (v := .bool false) (f := 18) (args := #[.agg (t.cells).toArray]) (fun z hz => by go_simp) (fun z hz => gives_below hz (Nat.le_refl _) (endB_t t hto false et z)) ?_
          try simp only [Act.put, List.setIfInBounds_toArray, List.set_cons_zero, List.set_cons_succ]
          refine WQ.yields (v := .bool true) (Or.inl ⟨by rfl, fun z hz => ?_⟩) ?_
          · go_simp
          try simp only [Act.put, List.setIfInBounds_toArray, List.set_cons_zero, List.set_cons_succ]
          refine WQ.yields (v := .bool true) (Or.inl ⟨by rfl, fun z hz => ?_⟩) ?_
          · go_simp
          try simp only [Act.put, List.setIfInBounds_toArray, List.set_cons_zero, List.set_cons_succ]
          refine WQ.yields (v := .slice (some ⟨g, 0, none⟩) q.l.length cap) (Or.inl ⟨by rfl, fun z hz => ?_⟩) ?_
          · go_simp
          try simp only [Act.put, List.setIfInBounds_toArray, List.set_cons_zero, List.set_cons_succ]
          refine WQ.yields (v := .int .i64 j) (Or.inl ⟨by rfl, fun z hz => ?_⟩) ?_
          · go_simp
          try simp only [Act.put, List.setIfInBounds_toArray, List.set_cons_zero, List.set_cons_succ]
          refine WQ.yields (v := .pointer (some ⟨g, j * 23, none⟩)) (Or.inl ⟨by rfl, fun z hz => ?_⟩) ?_
          · go_simp
          try simp only [Act.put, List.setIfInBounds_toArray, List.set_cons_zero, List.set_cons_succ]
          refine WQ.yields (v := .pointer (some ⟨g, j * 23, none⟩)) (Or.inl ⟨by rfl, fun z hz => ?_⟩) ?_
          · go_simp
          try simp only [Act.put, List.setIfInBounds_toArray, List.set_cons_zero, List.set_cons_succ]
          refine WQ.yields (v := .pointer (some ⟨g, j * 23 + 8, none⟩)) (Or.inl ⟨by rfl, fun z hz => ?_⟩) ?_
          · go_simp
          try simp only [Act.put, List.setIfInBounds_toArray, List.set_cons_zero, List.set_cons_succ]
          refine WQ.yields (v := .agg (t.driver).toArray) (y_load (by rfl) 23 _ (by rfl) g (j * 23 + 8) (by rfl) (t.driver) _ 8 (fun z hz => range_below T1.driver hz T1.lt) Try.underlying23 rfl size23 hto.bk.2.1) ?_
          try simp only [Act.put, List.setIfInBounds_toArray, List.set_cons_zero, List.set_cons_succ]
          refine WQ.yields (v := .agg (d).toArray) (y_load (by rfl) 23 _ (by rfl) bd (0) (by rfl) (d) _ 8 (fun z hz => range_below RD hz LD) Try.underlying23 rfl size23 hd.1) ?_
          try simp only [Act.put, List.setIfInBounds_toArray, List.set_cons_zero, List.set_cons_succ]
          refine WQ.yields (v := .bool true) (y_eq (by rfl) false 23 _ _ _ (by rfl) (t.driver).toArray (d).toArray (.bool true) (by rfl) (by rfl) guard23 (eq_ii hto.bk.2 hd true ⟨fun _ => NO.out, fun _ => rfl⟩)) ?_
          try simp only [Act.put, List.setIfInBounds_toArray, List.set_cons_zero, List.set_cons_succ]
          refine WQ.yields (v := .bool true) (Or.inl ⟨by rfl, fun z hz => ?_⟩) ?_
          · go_simp
          try simp only [Act.put, List.setIfInBounds_toArray, List.set_cons_zero, List.set_cons_succ]
          refine WQ.nil ?_
          intro z5 hz5
          have S5 := S4.up hz5
          clear S4 T1 RD LD hz5 hto hd
          go_wp2_with fail
          have e2 := (OX.out t HTM.out ot NO.out).2
          have e1 := Lib.hid (OX.out t HTM.out ot NO.out).1
          subst e2
          go_wp2_with fail
          have hto := HTO.out
          have T1 := TT.out.below S5.1 (Nat.le_refl _)
          have TX := box_in HX.out (S5.at (b := bx) (by simp))
          have hX := HX.out
          refine wp_region_wq z5.heap.size z5 (Below.refl _ z5) (by kernel_rfl) (by kernel_rfl) ?_
          refine WQ.yields (v := .bool true) (Or.inl ⟨by rfl, fun z hz => ?_⟩) ?_
          · go_simp
          try simp only [Act.put, List.setIfInBounds_toArray, List.set_cons_zero, List.set_cons_succ]
          refine WQ.yields (v := .bool false) (Or.inl ⟨by rfl, fun z hz => ?_⟩) ?_
          · go_simp
          try simp only [Act.put, List.setIfInBounds_toArray, List.set_cons_zero, List.set_cons_succ]
          refine WQ.yields (v := .bool false) (Or.inl ⟨by rfl, fun z hz => ?_⟩) ?_
          · go_simp
          try simp only [Act.put, List.setIfInBounds_toArray, List.set_cons_zero, List.set_cons_succ]
          refine WQ.yields (v := .agg (X.cells).toArray) (y_load (by rfl) 40 _ (by rfl) bx (0) (by rfl) (X.cells) _ 23 (fun z hz => range_below TX.all hz TX.lt) Try.underlying40 rfl size40 hX.length) ?_
          try simp only [Act.put, List.setIfInBounds_toArray, List.set_cons_zero, List.set_cons_succ]
          refine WQ.yields (v := .slice (some ⟨g, 0, none⟩) q.l.length cap) (Or.inl ⟨by rfl, fun z hz => ?_⟩) ?_
          · go_simp
          try simp only [Act.put, List.setIfInBounds_toArray, List.set_cons_zero, List.set_cons_succ]
          refine WQ.yields (v := .int .i64 j) (Or.inl ⟨by rfl, fun z hz => ?_⟩) ?_
          · go_simp
          try simp only [Act.put, List.setIfInBounds_toArray, List.set_cons_zero, List.set_cons_succ]
          refine WQ.yields (v := .pointer (some ⟨g, j * 23, none⟩)) (Or.inl ⟨by rfl, fun z hz => ?_⟩) ?_
          · go_simp
          try simp only [Act.put, List.setIfInBounds_toArray, List.set_cons_zero, List.set_cons_succ]
          refine WQ.yields (v := .agg (t.cells).toArray) (y_load (by rfl) 40 _ (by rfl) g (j * 23) (by rfl) (t.cells) _ 23 (fun z hz => range_below T1.all hz T1.lt) Try.underlying40 rfl size40 hto.length) ?_
          try simp only [Act.put, List.setIfInBounds_toArray, List.set_cons_zero, List.set_cons_succ]
          refine WQ.yields (v := .bool false) (y_eq (by rfl) true 40 _ _ _ (by rfl) (X.cells).toArray (t.cells).toArray (.bool false) (by rfl) (by rfl) guard40 (ne_tt hX hto false ⟨fun _ => e1.out, fun _ => rfl⟩)) ?_
          try simp only [Act.put, List.setIfInBounds_toArray, List.set_cons_zero, List.set_cons_succ]
          refine WQ.yields (v := .bool false) (Or.inl ⟨by rfl, fun z hz => ?_⟩) ?_
          · go_simp
          try simp only [Act.put, List.setIfInBounds_toArray, List.set_cons_zero, List.set_cons_succ]
          refine WQ.nil ?_
          intro z6 hz6
          have S6 := S5.up hz6
          clear S5 T1 TX hz6 hto hX
          go_wp2_with fail
          go_roundg (gk - 1)
          case measure => have := HJ.out; omega
          case rel => exact ⟨j + 1, _, by have := HJ.out; omega, rfl, by have := HJ.out; go_num, onIn_hit HM.out ⟨ot, NO.out⟩, S6.sub (by simp +contextual)⟩
        · have NO := Lib.hid odr
          clear odr
          refine wp_region_wq z4.heap.size z4 (Below.refl _ z4) (by kernel_rfl) (by kernel_rfl) ?_
          refine WQ.yields (v := .slice (some ⟨g, 0, none⟩) q.l.length cap) (Or.inl ⟨by rfl, fun z hz => ?_⟩) ?_
          · go_simp
          try simp only [Act.put, List.setIfInBounds_toArray, List.set_cons_zero, List.set_cons_succ]
          refine WQ.yields (v := .int .i64 j) (Or.inl ⟨by rfl, fun z hz => ?_⟩) ?_
          · go_simp
          try simp only [Act.put, List.setIfInBounds_toArray, List.set_cons_zero, List.set_cons_succ]
          refine WQ.yields (v := .pointer (some ⟨g, j * 23, none⟩)) (Or.inl ⟨by rfl, fun z hz => ?_⟩) ?_
          · go_simp
          try simp only [Act.put, List.setIfInBounds_toArray, List.set_cons_zero, List.set_cons_succ]
          refine WQ.yields (v := .agg (t.cells).toArray) (y_load (by rfl) 40 _ (by rfl) g (j * 23) (by rfl) (t.cells) _ 23 (fun z hz => range_below T1.all hz T1.lt) Try.underlying40 rfl size40 hto.length) ?_
          try simp only [Act.put, List.setIfInBounds_toArray, List.set_cons_zero, List.set_cons_succ]
          refine WQ.calls (by rfl) (v := .bool false) (f := 18) (args := #[.agg (t.cells).toArray]) (fun z hz => by go_simp) (fun z hz => gives_below hz (Nat.le_refl _) (endB_t t hto false et z)) ?_
          try simp only [Act.put, List.setIfInBounds_toArray, List.set_cons_zero, List.set_cons_succ]
          refine WQ.yields (v := .bool true) (Or.inl ⟨by rfl, fun z hz => ?_⟩) ?_
          · go_simp
          try simp only [Act.put, List.setIfInBounds_toArray, List.set_cons_zero, List.set_cons_succ]
          refine WQ.yields (v := .bool true) (Or.inl ⟨by rfl, fun z hz => ?_⟩) ?_
          · go_simp
          try simp only [Act.put, List.setIfInBounds_toArray, List.set_cons_zero, List.set_cons_succ]
          refine WQ.yields (v := .slice (some ⟨g, 0, none⟩) q.l.length cap) (Or.inl ⟨by rfl, fun z hz => ?_⟩) ?_
          · go_simp
          try simp only [Act.put, List.setIfInBounds_toArray, List.set_cons_zero, List.set_cons_succ]
          refine WQ.yields (v := .int .i64 j) (Or.inl ⟨by rfl, fun z hz => ?_⟩) ?_
          · go_simp
          try simp only [Act.put, List.setIfInBounds_toArray, List.set_cons_zero, List.set_cons_succ]
          refine WQ.yields (v := .pointer (some ⟨g, j * 23, none⟩)) (Or.inl ⟨by rfl, fun z hz => ?_⟩) ?_
          · go_simp
          try simp only [Act.put, List.setIfInBounds_toArray, List.set_cons_zero, List.set_cons_succ]
          refine WQ.yields (v := .pointer (some ⟨g, j * 23, none⟩)) (Or.inl ⟨by rfl, fun z hz => ?_⟩) ?_
          · go_simp
          try simp only [Act.put, List.setIfInBounds_toArray, List.set_cons_zero, List.set_cons_succ]
          refine WQ.yields (v := .pointer (some ⟨g, j * 23 + 8, none⟩)) (Or.inl ⟨by rfl, fun z hz => ?_⟩) ?_
          · go_simp
          try simp only [Act.put, List.setIfInBounds_toArray, List.set_cons_zero, List.set_cons_succ]
          refine WQ.yields (v := .agg (t.driver).toArray) (y_load (by rfl) 23 _ (by rfl) g (j * 23 + 8) (by rfl) (t.driver) _ 8 (fun z hz => range_below T1.driver hz T1.lt) Try.underlying23 rfl size23 hto.bk.2.1) ?_
          try simp only [Act.put, List.setIfInBounds_toArray, List.set_cons_zero, List.set_cons_succ]
          refine WQ.yields (v := .agg (d).toArray) (y_load (by rfl) 23 _ (by rfl) bd (0) (by rfl) (d) _ 8 (fun z hz => range_below RD hz LD) Try.underlying23 rfl size23 hd.1) ?_
          try simp only [Act.put, List.setIfInBounds_toArray, List.set_cons_zero, List.set_cons_succ]
          refine WQ.yields (v := .bool false) (y_eq (by rfl) false 23 _ _ _ (by rfl) (t.driver).toArray (d).toArray (.bool false) (by rfl) (by rfl) guard23 (eq_ii hto.bk.2 hd false ⟨fun e => (by cases e), fun e => (NO.out e).elim⟩)) ?_
          try simp only [Act.put, List.setIfInBounds_toArray, List.set_cons_zero, List.set_cons_succ]
          refine WQ.yields (v := .bool false) (Or.inl ⟨by rfl, fun z hz => ?_⟩) ?_
          · go_simp
          try simp only [Act.put, List.setIfInBounds_toArray, List.set_cons_zero, List.set_cons_succ]
          refine WQ.nil ?_
          intro z5 hz5
          have S5 := S4.up hz5
          clear S4 T1 RD LD hz5 hto hd
          go_wp2_with fail
          go_roundg (gk - 1)
          case measure => have := HJ.out; omega
          case rel => exact ⟨j + 1, _, by have := HJ.out; omega, rfl, by have := HJ.out; go_num, onIn_step HI.out HM.out (fun e => NO.out e.2), S5.sub (by simp +contextual)⟩
      · have et : t.endB = true := by
          cases he : t.endB with
          | true => rfl
          | false => exact (ot (endB_on.1 he)).elim
        refine wp_region_wq z4.heap.size z4 (Below.refl _ z4) (by kernel_rfl) (by kernel_rfl) ?_
        refine WQ.yields (v := .slice (some ⟨g, 0, none⟩) q.l.length cap) (Or.inl ⟨by rfl, fun z hz => ?_⟩) ?_
        · go_simp
        try simp only [Act.put, List.setIfInBounds_toArray, List.set_cons_zero, List.set_cons_succ]
        refine WQ.yields (v := .int .i64 j) (Or.inl ⟨by rfl, fun z hz => ?_⟩) ?_
        · go_simp
        try simp only [Act.put, List.setIfInBounds_toArray, List.set_cons_zero, List.set_cons_succ]
        refine WQ.yields (v := .pointer (some ⟨g, j * 23, none⟩)) (Or.inl ⟨by rfl, fun z hz => ?_⟩) ?_
        · go_simp
        try simp only [Act.put, List.setIfInBounds_toArray, List.set_cons_zero, List.set_cons_succ]
        refine WQ.yields (v := .agg (t.cells).toArray) (y_load (by rfl) 40 _ (by rfl) g (j * 23) (by rfl) (t.cells) _ 23 (fun z hz => range_below T1.all hz T1.lt) Try.underlying40 rfl size40 hto.length) ?_
        try simp only [Act.put, List.setIfInBounds_toArray, List.set_cons_zero, List.set_cons_succ]
        refine WQ.calls (by rfl) (v := .bool true) (f := 18) (args := #[.agg (t.cells).toArray]) (fun z hz => by go_simp) (fun z hz => gives_below hz (Nat.le_refl _) (endB_t t hto true et z)) ?_
        try simp only [Act.put, List.setIfInBounds_toArray, List.set_cons_zero, List.set_cons_succ]
        refine WQ.yields (v := .bool false) (Or.inl ⟨by rfl, fun z hz => ?_⟩) ?_
        · go_simp
        try simp only [Act.put, List.setIfInBounds_toArray, List.set_cons_zero, List.set_cons_succ]
        refine WQ.yields (v := .bool false) (Or.inl ⟨by rfl, fun z hz => ?_⟩) ?_
        · go_simp
        try simp only [Act.put, List.setIfInBounds_toArray, List.set_cons_zero, List.set_cons_succ]
        refine WQ.skip (by rfl) ?_
        try simp only [Act.put, List.setIfInBounds_toArray, List.set_cons_zero, List.set_cons_succ]
        refine WQ.skip (by rfl) ?_
        try simp only [Act.put, List.setIfInBounds_toArray, List.set_cons_zero, List.set_cons_succ]
        refine WQ.skip (by rfl) ?_
        try simp only [Act.put, List.setIfInBounds_toArray, List.set_cons_zero, List.set_cons_succ]
        refine WQ.skip (by rfl) ?_
        try simp only [Act.put, List.setIfInBounds_toArray, List.set_cons_zero, List.set_cons_succ]
        refine WQ.skip (by rfl) ?_
        try simp only [Act.put, List.setIfInBounds_toArray, List.set_cons_zero, List.set_cons_succ]
        refine WQ.skip (by rfl) ?_
        try simp only [Act.put, List.setIfInBounds_toArray, List.set_cons_zero, List.set_cons_succ]
        refine WQ.skip (by rfl) ?_
        try simp only [Act.put, List.setIfInBounds_toArray, List.set_cons_zero, List.set_cons_succ]
        refine WQ.skip (by rfl) ?_
        try simp only [Act.put, List.setIfInBounds_toArray, List.set_cons_zero, List.set_cons_succ]
        refine WQ.yields (v := .bool false) (Or.inl ⟨by rfl, fun z hz => ?_⟩) ?_
        · go_simp
        try simp only [Act.put, List.setIfInBounds_toArray, List.set_cons_zero, List.set_cons_succ]
        refine WQ.nil ?_
        intro z5 hz5
        have S5 := S4.up hz5
        clear S4 T1 RD LD hz5 hto hd
        go_wp2_with fail
        go_roundg (gk - 1)
        case measure => have := HJ.out; omega
        case rel => exact ⟨j + 1, _, by have := HJ.out; omega, rfl, by have := HJ.out; go_num, onIn_step HI.out HM.out (fun e => ot e.1), S5.sub (by simp +contextual)⟩
    · obtain rfl : j = q.l.length := by omega
      have hib := HI.out
      unfold OnIn at hib
      rw [List.take_length] at hib
      have hoo : ib = ob := by
        rw [Bool.eq_iff_iff, hib]
        exact ⟨fun ⟨t, ht, a, b⟩ => (OX.out t ht a b).2, YX.out⟩
      clear hib HI
      subst hoo
      cases ib with
      | true =>
        go_wp2_with fail
        go_ret
        exact gives_of_eq rfl S.1
      | false =>
        have hx := ZX.out rfl
        subst hx
        have q40 : wr.heap[bx]? = some (.cells Z40 40 (0, 0)) := S.at (b := bx) (by rw [← zt_cells]; simp)
        have e40 := eql_z wr
        go_wp2_with (first | (refine wpList_loadrow_g (by rfl) 40 _ (by rfl) bx (by rfl) Z40 40 _ q40 Try.underlying40 rfl size40 ?_) | (refine wpList_build_g (by rfl) 40 _ (by rfl) (.agg Z40) build40 ?_) | (refine wpList_eq_g (by rfl) false 40 _ _ _ (by rfl) Z40 Z40 (.bool true) (by rfl) (by rfl) guard40 e40 ?_))
        go_ret
        exact gives_of_eq rfl S.1
end Go.Proofs.Ytnooghehmgbemaa
