/- TripPlays: the reference: Get, Of. -/
import Derived.Test.YtnooghehmgbemaaGreatP2
namespace Go.Proofs.YtnooghehmgbemaaGreat
open Go.RowKit
set_option linter.unusedVariables false
set_option linter.unusedSimpArgs false

theorem Bk.refill {w0 u : World} {bs : List (Nat × Obj)} (s : Bk w0 bs u) {b : Nat} {cs : Array Value} {t : TypeId} (h : (b, Obj.cells cs t (0, 0)) ∈ bs) (hB : w0.heap.size ≤ b) (c' : Array Value) : Bk w0 ((b, .cells c' t (0, 0)) :: bs.filter (fun p => p.1 != b)) (u.setRow b c') :=
  ⟨Below.setRow s.1 hB _, fun p hp => by
    rcases List.mem_cons.1 hp with rfl | hp
    · exact setRow_heap _ _ _ _ _ _ (s.2 _ h)
    · obtain ⟨hp, hne⟩ := List.mem_filter.1 hp
      rw [setRow_other _ _ _ _ (by simpa using hne)]; exact s.2 p hp⟩
section
variable {F : Nat → Prop} {w u : World} {rb : Nat} {v : Value} {q : St} {bs : List (Nat × Obj)}
theorem RefIn.bk (h : RefIn F w rb v q) (hF : ∀ k, F k → k < w.heap.size) (s : Bk w bs u) : RefIn F u rb v q := h.of_blocks (fun k hk => s.1.block k (hF k hk)) (fun _ hk => hk)
set_option maxRecDepth 20000 in
set_option maxHeartbeats 8000000 in
theorem ref_get (hA : RefAt F w rb q) (hq : q.ok) (hn : q.l.length ≤ 1048576) (k : List Value) (hk : Bs 16 k) : Calls Tryz.prog 19 #[.pointer (some ⟨rb, 0, none⟩), .agg k.toArray] w (Gives (tripV (q.find k)) w) := by
  obtain ⟨hF, v, h⟩ := hA
  have HQ := Lib.hid hq
  have HK := Lib.hid hk
  have HP := Lib.hid (fun (u : World) (bs : List (Nat × Obj)) (s : Bk w bs u) (r : Int) (hr : PlaceIs q.l k r) => s.gives (ref_place (h.bk hF s) hq.ok hn k hk r hr))
  have HC := Lib.hid (fun (u : World) (bs : List (Nat × Obj)) (s : Bk w bs u) => (h.bk hF s).c.1)
  have HV := Lib.hid h.rowT
  have S0 : Bk w [] w := ⟨Below.refl _ w, by simp⟩
  have S := (S0.alloc (.cells k.toArray 59)).alloc (.cells Z40 83)
  rw [World.size_alloc] at S
  have q0 := S.at (b := w.heap.size) (o := .cells k.toArray 59 (0, 0)) (by simp)
  have hkl := hk.1
  clear hq hk S0
  obtain ⟨ao, cap, ev, _⟩ := h.rowT
  subst ev
  clear h hF
  go_enter Tryz.func19, Tryz.ntmps19
  go_wp2_with (first
    | (refine wpList_allocz rfl 83 (by rfl) Z40 23 zero40 ?_)
    | (refine wpList_loadrow_g (by rfl) 59 _ (by rfl) w.heap.size (by rfl) k.toArray 59 _ q0 Tryz.underlying59 rfl (by rw [List.size_toArray, hkl]; exact size25) ?_)
    | fail)
  clear q0 hkl
  generalize (w.alloc (.cells k.toArray 59)).alloc (.cells Z40 83) = u1 at *
  obtain ⟨bz, hbz⟩ : ∃ bz, bz = w.heap.size + 1 := ⟨_, rfl⟩
  have hzz : w.heap.size ≤ bz := by omega
  rw [← hbz] at S ⊢
  clear hbz
  cases hf : q.find k with
  | none =>
    refine (HP.out _ _ S (-1) (.inl ⟨rfl, find_none hf⟩)).mono ?_
    have HF := Lib.hid hf
    clear S hf
    rintro e w3 ⟨rfl, S⟩
    have q1 := S.at (b := bz) (o := .cells Z40 83 (0, 0)) (by simp)
    have S3 := S.refill (b := bz) (cs := Z40) (t := 83) (by simp) hzz Z40
    go_wp2_with (first
      | (refine wpList_build rfl 83 (by rfl) (.agg Z40) build40 ?_)
      | (refine wpList_storerow rfl 83 _ _ (by rfl) bz (by rfl) Z40 Z40 (by rfl) q1 size40 rfl z40o ?_)
      | fail)
    refine bodyPost_ret (v := .tuple #[.agg Z40, .bool false]) ?_ rfl (gives_of_eq (by rw [HF.out]; rfl) S3.1)
    exact results_cell (b := bz) (tt := 83) rfl rfl rfl (S3.at (by simp)) Tryz.underlying83 rfl size40
  | some t =>
    obtain ⟨htm, hkt⟩ := find_some hf
    obtain ⟨j, hj⟩ := List.mem_iff_getElem?.1 htm
    refine (HP.out _ _ S j (placeIs_some HQ.out hj hkt)).mono ?_
    have HF := Lib.hid hf
    clear S hf
    rintro e w3 ⟨rfl, S⟩
    have hto := HQ.out.ok t htm
    obtain ⟨g, c, e1, T1⟩ := HV.out.get HQ.out.ok hj
    cases e1
    have ra := (T1.below S.1 (Nat.le_refl _)).all
    have hjl := (List.getElem?_eq_some_iff.1 hj).1
    have c0 := HC.out _ _ S
    have q1 := S.at (b := bz) (o := .cells Z40 83 (0, 0)) (by simp)
    have S3 := S.refill (b := bz) (cs := Z40) (t := 83) (by simp) hzz t.cells.toArray
    have hlt := hto.length
    have hot := all_oneCell_toArray hto.one
    clear T1 hj hkt htm hto
    go_wp2_with (first
      | (refine wpList_loadmid_g (by rfl) 83 _ (by rfl) g (j * 23) (by rfl) t.cells _ ra Tryz.underlying83 rfl (by rw [hlt]; exact size40) ?_)
      | (refine wpList_storerow rfl 83 _ _ (by rfl) bz (by rfl) Z40 t.cells.toArray (by rfl) q1 (by rw [List.size_toArray, hlt]; exact size40) (by rw [z40s, List.size_toArray, hlt]) hot ?_)
      | fail)
    refine bodyPost_ret (v := .tuple #[.agg t.cells.toArray, .bool true]) ?_ rfl (gives_of_eq (by rw [HF.out]; rfl) S3.1)
    exact results_cell (b := bz) (tt := 83) rfl rfl rfl (S3.at (by simp)) Tryz.underlying83 rfl (by rw [List.size_toArray, hlt]; exact size40)
set_option maxRecDepth 20000 in
set_option maxHeartbeats 8000000 in
theorem ref_of (hA : RefAt F w rb q) (hq : q.ok) (hn : q.l.length ≤ 1048576) (d : List Value) (hd : Bs 8 d) : Calls Tryz.prog 21 #[.pointer (some ⟨rb, 0, none⟩), .agg d.toArray] w (Gives (tripV (q.onD d)) w) := by
  obtain ⟨hF, v, h⟩ := hA
  have HQ := Lib.hid hq
  have HD := Lib.hid hd
  have HC := Lib.hid (fun (u : World) (bs : List (Nat × Obj)) (s : Bk w bs u) => (h.bk hF s).c.1)
  have HV := Lib.hid h.rowT
  have HLT := h.lt
  have S0 : Bk w [] w := ⟨Below.refl _ w, by simp⟩
  have S := (S0.alloc (.cells d.toArray 57)).alloc (.cells Z40 83)
  rw [World.size_alloc] at S
  clear hq hd S0
  obtain ⟨ao, cap, ev, _⟩ := h.rowT
  subst ev
  clear h hF
  go_enter Tryz.func21, Tryz.ntmps21
  go_wp2_with (first
    | (refine wpList_allocz rfl 83 (by rfl) Z40 23 zero40 ?_)
    | fail)
  generalize (w.alloc (.cells d.toArray 57)).alloc (.cells Z40 83) = u1 at *
  obtain ⟨bz, hbz⟩ : ∃ bz, bz = w.heap.size + 1 := ⟨_, rfl⟩
  obtain ⟨bd, hbd⟩ : ∃ bd, bd = w.heap.size := ⟨_, rfl⟩
  have hzz : w.heap.size ≤ bz := by omega
  have hdz : bd ≠ bz := by omega
  rw [← hbz, ← hbd] at S
  rw [← hbz, ← hbd]
  have HBD := Lib.hid hbd
  clear hbz hbd
  go_loopg [6] q.l.length (fun gk v6 wr => ∃ j : Nat, j + gk = q.l.length ∧ v6 = .int .i64 j ∧ (∀ t ∈ q.l.take j, ¬ (t.on ∧ t.driver = d)) ∧ Bk w [(bz, .cells Z40 83 (0, 0)), (bd, .cells d.toArray 57 (0, 0))] wr)
  case atStart => exact ⟨0, by omega, rfl, by simp, S⟩
  case round =>
    clear S
    obtain ⟨j, hj, rfl, hno, S⟩ := hrel
    have HNO := Lib.hid hno
    clear hno
    have c0 := HC.out _ _ S
    by_cases hlt : j < q.l.length
    · obtain ⟨t, ht⟩ : ∃ t, q.l[j]? = some t := ⟨_, List.getElem?_eq_getElem hlt⟩
      have htm := List.mem_of_getElem? ht
      have hto := HQ.out.ok t htm
      obtain ⟨g, c, e1, T1⟩ := HV.out.get HQ.out.ok ht
      cases e1
      have HM := Lib.hid ht
      have HTM := Lib.hid htm
      have HTO := Lib.hid hto
      have HJ := Lib.hid (And.intro hj hlt)
      have HT1 := Lib.hid T1
      clear ht htm hto T1
      go_wp2_with fail
      have CC := Lib.hid c0
      have LR : rb < wr.heap.size := Nat.lt_of_lt_of_le HLT S.1.size
      clear c0
      have hto := HTO.out
      have T1 := HT1.out.below S.1 (Nat.le_refl _)
      have RD : wr.rangeAt bd 0 d := range_sub (S.at (b := bd) (o := .cells d.toArray 57 (0, 0)) (by simp)) 0 (a := []) (z := []) (by simp) rfl
      have LD : bd < wr.heap.size := (Array.getElem?_eq_some_iff.1 (S.at (b := bd) (o := .cells d.toArray 57 (0, 0)) (by simp))).1
      have hd := HD.out
      by_cases ek : t.driver = d
      · have NO := Lib.hid ek
        clear ek
        by_cases ot : t.on
        · have et : t.onB = true := onB_on.2 ot
          refine wp_region_wq wr.heap.size wr (Below.refl _ wr) (by kernel_rfl) (by kernel_rfl) ?_
          refine WQ.yields (v := .pointer (some ⟨rb, 0, none⟩)) (Or.inl ⟨by rfl, fun z hz => ?_⟩) ?_
          · go_simp
          try simp only [Act.put, List.setIfInBounds_toArray, List.set_cons_zero, List.set_cons_succ]
          refine WQ.yields (v := .pointer (some ⟨rb, 0, none⟩)) (Or.inl ⟨by rfl, fun z hz => ?_⟩) ?_
          · go_simp
          try simp only [Act.put, List.setIfInBounds_toArray, List.set_cons_zero, List.set_cons_succ]
          refine WQ.yields (v := .pointer (some ⟨rb, 0, none⟩)) (Or.inl ⟨by rfl, fun z hz => ?_⟩) ?_
          · go_simp
          try simp only [Act.put, List.setIfInBounds_toArray, List.set_cons_zero, List.set_cons_succ]
          refine WQ.yields (v := .slice (some ⟨g, 0, none⟩) q.l.length cap) (Or.inl ⟨by rfl, fun z hz => ?_⟩) ?_
          · have c := (hz.cell (p := ⟨rb, 0, none⟩) LR).trans CC.out; go_simp
          try simp only [Act.put, List.setIfInBounds_toArray, List.set_cons_zero, List.set_cons_succ]
          refine WQ.yields (v := .int .i64 j) (Or.inl ⟨by rfl, fun z hz => ?_⟩) ?_
          · go_simp
          try simp only [Act.put, List.setIfInBounds_toArray, List.set_cons_zero, List.set_cons_succ]
          refine WQ.yields (v := .pointer (some ⟨g, j * 23, none⟩)) (Or.inl ⟨by rfl, fun z hz => ?_⟩) ?_
          · go_simp
          try simp only [Act.put, List.setIfInBounds_toArray, List.set_cons_zero, List.set_cons_succ]
          refine WQ.yields (v := .pointer (some ⟨g, j * 23, none⟩)) (Or.inl ⟨by rfl, fun z hz => ?_⟩) ?_
          · go_simp
          try simp only [Act.put, List.setIfInBounds_toArray, List.set_cons_zero, List.set_cons_succ]
          refine WQ.yields (v := .pointer (some ⟨g, j * 23 + 8, none⟩)) (Or.inl ⟨by rfl, fun z hz => ?_⟩) ?_
          · go_simp
          try simp only [Act.put, List.setIfInBounds_toArray, List.set_cons_zero, List.set_cons_succ]
          refine WQ.yields (v := .agg (t.driver).toArray) (y_load (by rfl) 57 _ (by rfl) g (j * 23 + 8) (by rfl) (t.driver) _ 8 (fun z hz => range_below T1.driver hz T1.lt) Tryz.underlying57 rfl size23 hto.bk.2.1) ?_
          try simp only [Act.put, List.setIfInBounds_toArray, List.set_cons_zero, List.set_cons_succ]
          refine WQ.yields (v := .agg (d).toArray) (y_load (by rfl) 57 _ (by rfl) bd (0) (by rfl) (d) _ 8 (fun z hz => range_below RD hz LD) Tryz.underlying57 rfl size23 hd.1) ?_
          try simp only [Act.put, List.setIfInBounds_toArray, List.set_cons_zero, List.set_cons_succ]
          refine WQ.yields (v := .bool true) (y_eq (by rfl) false 57 _ _ _ (by rfl) (t.driver).toArray (d).toArray (.bool true) (by rfl) (by rfl) guard23 (eq_ii hto.bk.2 hd true ⟨fun _ => NO.out, fun _ => rfl⟩)) ?_
          try simp only [Act.put, List.setIfInBounds_toArray, List.set_cons_zero, List.set_cons_succ]
          refine WQ.yields (v := .bool true) (Or.inl ⟨by rfl, fun z hz => ?_⟩) ?_
          · go_simp
          try simp only [Act.put, List.setIfInBounds_toArray, List.set_cons_zero, List.set_cons_succ]
          refine WQ.yields (v := .pointer (some ⟨rb, 0, none⟩)) (Or.inl ⟨by rfl, fun z hz => ?_⟩) ?_
          · go_simp
          try simp only [Act.put, List.setIfInBounds_toArray, List.set_cons_zero, List.set_cons_succ]
          refine WQ.yields (v := .pointer (some ⟨rb, 0, none⟩)) (Or.inl ⟨by rfl, fun z hz => ?_⟩) ?_
          · go_simp
          try simp only [Act.put, List.setIfInBounds_toArray, List.set_cons_zero, List.set_cons_succ]
          refine WQ.yields (v := .pointer (some ⟨rb, 0, none⟩)) (Or.inl ⟨by rfl, fun z hz => ?_⟩) ?_
          · go_simp
          try simp only [Act.put, List.setIfInBounds_toArray, List.set_cons_zero, List.set_cons_succ]
          refine WQ.yields (v := .slice (some ⟨g, 0, none⟩) q.l.length cap) (Or.inl ⟨by rfl, fun z hz => ?_⟩) ?_
          · have c := (hz.cell (p := ⟨rb, 0, none⟩) LR).trans CC.out; go_simp
          try simp only [Act.put, List.setIfInBounds_toArray, List.set_cons_zero, List.set_cons_succ]
          refine WQ.yields (v := .int .i64 j) (Or.inl ⟨by rfl, fun z hz => ?_⟩) ?_
          · go_simp
          try simp only [Act.put, List.setIfInBounds_toArray, List.set_cons_zero, List.set_cons_succ]
          refine WQ.yields (v := .pointer (some ⟨g, j * 23, none⟩)) (Or.inl ⟨by rfl, fun z hz => ?_⟩) ?_
          · go_simp
          try simp only [Act.put, List.setIfInBounds_toArray, List.set_cons_zero, List.set_cons_succ]
          refine WQ.yields (v := .agg (t.cells).toArray) (y_load (by rfl) 83 _ (by rfl) g (j * 23) (by rfl) (t.cells) _ 23 (fun z hz => range_below T1.all hz T1.lt) Tryz.underlying83 rfl size40 hto.length) ?_
          try simp only [Act.put, List.setIfInBounds_toArray, List.set_cons_zero, List.set_cons_succ]
          refine WQ.calls (by rfl) (v := .bool true) (f := 100) (args := #[.agg (t.cells).toArray]) (fun z hz => by go_simp) (fun z hz => gives_below hz (Nat.le_refl _) (on_ok t hto true et z)) ?_
          try simp only [Act.put, List.setIfInBounds_toArray, List.set_cons_zero, List.set_cons_succ]
          refine WQ.yields (v := .bool true) (Or.inl ⟨by rfl, fun z hz => ?_⟩) ?_
          · go_simp
          try simp only [Act.put, List.setIfInBounds_toArray, List.set_cons_zero, List.set_cons_succ]
          refine WQ.nil ?_
          intro z hz2
          have S5 := S.up hz2
          clear S T1 RD LD hz2 hto hd LR CC
          have ra := (HT1.out.below S5.1 (Nat.le_refl _)).all
          have c0 := HC.out _ _ S5
          have q1 := S5.at (b := bz) (o := .cells Z40 83 (0, 0)) (by simp)
          have S6 := S5.refill (b := bz) (cs := Z40) (t := 83) (by simp) hzz t.cells.toArray
          have hlt' := HTO.out.length
          have hot := all_oneCell_toArray HTO.out.one
          have hlt := HJ.out.2
          go_wp2_with (first
            | (refine wpList_loadmid_g (by rfl) 83 _ (by rfl) g (j * 23) (by rfl) t.cells _ ra Tryz.underlying83 rfl (by rw [hlt']; exact size40) ?_)
            | (refine wpList_storerow rfl 83 _ _ (by rfl) bz (by rfl) Z40 t.cells.toArray (by rfl) q1 (by rw [List.size_toArray, hlt']; exact size40) (by rw [z40s, List.size_toArray, hlt']) hot ?_)
            | fail)
          refine bodyPost_ret (v := .tuple #[.agg t.cells.toArray, .bool true]) ?_ rfl (gives_of_eq ?_ S6.1)
          · exact results_cell (b := bz) (tt := 83) rfl rfl rfl (S6.at (by simp)) Tryz.underlying83 rfl (by rw [List.size_toArray, hlt']; exact size40)
          · have := onD_mem HQ.out HTM.out ot
            rw [NO.out] at this
            rw [this]; rfl
        · have et : t.onB = false := by
            cases he : t.onB with
            | false => rfl
            | true => exact (ot (onB_on.1 he)).elim
          refine wp_region_wq wr.heap.size wr (Below.refl _ wr) (by kernel_rfl) (by kernel_rfl) ?_
          refine WQ.yields (v := .pointer (some ⟨rb, 0, none⟩)) (Or.inl ⟨by rfl, fun z hz => ?_⟩) ?_
          · go_simp
          try simp only [Act.put, List.setIfInBounds_toArray, List.set_cons_zero, List.set_cons_succ]
          refine WQ.yields (v := .pointer (some ⟨rb, 0, none⟩)) (Or.inl ⟨by rfl, fun z hz => ?_⟩) ?_
          · go_simp
          try simp only [Act.put, List.setIfInBounds_toArray, List.set_cons_zero, List.set_cons_succ]
          refine WQ.yields (v := .pointer (some ⟨rb, 0, none⟩)) (Or.inl ⟨by rfl, fun z hz => ?_⟩) ?_
          · go_simp
          try simp only [Act.put, List.setIfInBounds_toArray, List.set_cons_zero, List.set_cons_succ]
          refine WQ.yields (v := .slice (some ⟨g, 0, none⟩) q.l.length cap) (Or.inl ⟨by rfl, fun z hz => ?_⟩) ?_
          · have c := (hz.cell (p := ⟨rb, 0, none⟩) LR).trans CC.out; go_simp
          try simp only [Act.put, List.setIfInBounds_toArray, List.set_cons_zero, List.set_cons_succ]
          refine WQ.yields (v := .int .i64 j) (Or.inl ⟨by rfl, fun z hz => ?_⟩) ?_
          · go_simp
          try simp only [Act.put, List.setIfInBounds_toArray, List.set_cons_zero, List.set_cons_succ]
          refine WQ.yields (v := .pointer (some ⟨g, j * 23, none⟩)) (Or.inl ⟨by rfl, fun z hz => ?_⟩) ?_
          · go_simp
          try simp only [Act.put, List.setIfInBounds_toArray, List.set_cons_zero, List.set_cons_succ]
          refine WQ.yields (v := .pointer (some ⟨g, j * 23, none⟩)) (Or.inl ⟨by rfl, fun z hz => ?_⟩) ?_
          · go_simp
          try simp only [Act.put, List.setIfInBounds_toArray, List.set_cons_zero, List.set_cons_succ]
          refine WQ.yields (v := .pointer (some ⟨g, j * 23 + 8, none⟩)) (Or.inl ⟨by rfl, fun z hz => ?_⟩) ?_
          · go_simp
          try simp only [Act.put, List.setIfInBounds_toArray, List.set_cons_zero, List.set_cons_succ]
          refine WQ.yields (v := .agg (t.driver).toArray) (y_load (by rfl) 57 _ (by rfl) g (j * 23 + 8) (by rfl) (t.driver) _ 8 (fun z hz => range_below T1.driver hz T1.lt) Tryz.underlying57 rfl size23 hto.bk.2.1) ?_
          try simp only [Act.put, List.setIfInBounds_toArray, List.set_cons_zero, List.set_cons_succ]
          refine WQ.yields (v := .agg (d).toArray) (y_load (by rfl) 57 _ (by rfl) bd (0) (by rfl) (d) _ 8 (fun z hz => range_below RD hz LD) Tryz.underlying57 rfl size23 hd.1) ?_
          try simp only [Act.put, List.setIfInBounds_toArray, List.set_cons_zero, List.set_cons_succ]
          refine WQ.yields (v := .bool true) (y_eq (by rfl) false 57 _ _ _ (by rfl) (t.driver).toArray (d).toArray (.bool true) (by rfl) (by rfl) guard23 (eq_ii hto.bk.2 hd true ⟨fun _ => NO.out, fun _ => rfl⟩)) ?_
          try simp only [Act.put, List.setIfInBounds_toArray, List.set_cons_zero, List.set_cons_succ]
          refine WQ.yields (v := .bool true) (Or.inl ⟨by rfl, fun z hz => ?_⟩) ?_
          · go_simp
          try simp only [Act.put, List.setIfInBounds_toArray, List.set_cons_zero, List.set_cons_succ]
          refine WQ.yields (v := .pointer (some ⟨rb, 0, none⟩)) (Or.inl ⟨by rfl, fun z hz => ?_⟩) ?_
          · go_simp
          try simp only [Act.put, List.setIfInBounds_toArray, List.set_cons_zero, List.set_cons_succ]
          refine WQ.yields (v := .pointer (some ⟨rb, 0, none⟩)) (Or.inl ⟨by rfl, fun z hz => ?_⟩) ?_
          · go_simp
          try simp only [Act.put, List.setIfInBounds_toArray, List.set_cons_zero, List.set_cons_succ]
          refine WQ.yields (v := .pointer (some ⟨rb, 0, none⟩)) (Or.inl ⟨by rfl, fun z hz => ?_⟩) ?_
          · go_simp
          try simp only [Act.put, List.setIfInBounds_toArray, List.set_cons_zero, List.set_cons_succ]
          refine WQ.yields (v := .slice (some ⟨g, 0, none⟩) q.l.length cap) (Or.inl ⟨by rfl, fun z hz => ?_⟩) ?_
          · have c := (hz.cell (p := ⟨rb, 0, none⟩) LR).trans CC.out; go_simp
          try simp only [Act.put, List.setIfInBounds_toArray, List.set_cons_zero, List.set_cons_succ]
          refine WQ.yields (v := .int .i64 j) (Or.inl ⟨by rfl, fun z hz => ?_⟩) ?_
          · go_simp
          try simp only [Act.put, List.setIfInBounds_toArray, List.set_cons_zero, List.set_cons_succ]
          refine WQ.yields (v := .pointer (some ⟨g, j * 23, none⟩)) (Or.inl ⟨by rfl, fun z hz => ?_⟩) ?_
          · go_simp
          try simp only [Act.put, List.setIfInBounds_toArray, List.set_cons_zero, List.set_cons_succ]
          refine WQ.yields (v := .agg (t.cells).toArray) (y_load (by rfl) 83 _ (by rfl) g (j * 23) (by rfl) (t.cells) _ 23 (fun z hz => range_below T1.all hz T1.lt) Tryz.underlying83 rfl size40 hto.length) ?_
          try simp only [Act.put, List.setIfInBounds_toArray, List.set_cons_zero, List.set_cons_succ]
          refine WQ.calls (by rfl) (v := .bool false) (f := 100) (args := #[.agg (t.cells).toArray]) (fun z hz => by go_simp) (fun z hz => gives_below hz (Nat.le_refl _) (on_ok t hto false et z)) ?_
          try simp only [Act.put, List.setIfInBounds_toArray, List.set_cons_zero, List.set_cons_succ]
          refine WQ.yields (v := .bool false) (Or.inl ⟨by rfl, fun z hz => ?_⟩) ?_
          · go_simp
          try simp only [Act.put, List.setIfInBounds_toArray, List.set_cons_zero, List.set_cons_succ]
          refine WQ.nil ?_
          intro z hz2
          have S5 := S.up hz2
          clear S T1 RD LD hz2 hto hd LR CC
          go_wp2_with fail
          go_roundg (gk - 1)
          case measure => have := HJ.out; omega
          case rel => exact ⟨j + 1, by have := HJ.out; omega, by have := HJ.out; go_num, take_no HNO.out HM.out (fun e => ot e.1), S5⟩
      · have NO := Lib.hid ek
        clear ek
        refine wp_region_wq wr.heap.size wr (Below.refl _ wr) (by kernel_rfl) (by kernel_rfl) ?_
        refine WQ.yields (v := .pointer (some ⟨rb, 0, none⟩)) (Or.inl ⟨by rfl, fun z hz => ?_⟩) ?_
        · go_simp
        try simp only [Act.put, List.setIfInBounds_toArray, List.set_cons_zero, List.set_cons_succ]
        refine WQ.yields (v := .pointer (some ⟨rb, 0, none⟩)) (Or.inl ⟨by rfl, fun z hz => ?_⟩) ?_
        · go_simp
        try simp only [Act.put, List.setIfInBounds_toArray, List.set_cons_zero, List.set_cons_succ]
        refine WQ.yields (v := .pointer (some ⟨rb, 0, none⟩)) (Or.inl ⟨by rfl, fun z hz => ?_⟩) ?_
        · go_simp
        try simp only [Act.put, List.setIfInBounds_toArray, List.set_cons_zero, List.set_cons_succ]
        refine WQ.yields (v := .slice (some ⟨g, 0, none⟩) q.l.length cap) (Or.inl ⟨by rfl, fun z hz => ?_⟩) ?_
        · have c := (hz.cell (p := ⟨rb, 0, none⟩) LR).trans CC.out; go_simp
        try simp only [Act.put, List.setIfInBounds_toArray, List.set_cons_zero, List.set_cons_succ]
        refine WQ.yields (v := .int .i64 j) (Or.inl ⟨by rfl, fun z hz => ?_⟩) ?_
        · go_simp
        try simp only [Act.put, List.setIfInBounds_toArray, List.set_cons_zero, List.set_cons_succ]
        refine WQ.yields (v := .pointer (some ⟨g, j * 23, none⟩)) (Or.inl ⟨by rfl, fun z hz => ?_⟩) ?_
        · go_simp
        try simp only [Act.put, List.setIfInBounds_toArray, List.set_cons_zero, List.set_cons_succ]
        refine WQ.yields (v := .pointer (some ⟨g, j * 23, none⟩)) (Or.inl ⟨by rfl, fun z hz => ?_⟩) ?_
        · go_simp
        try simp only [Act.put, List.setIfInBounds_toArray, List.set_cons_zero, List.set_cons_succ]
        refine WQ.yields (v := .pointer (some ⟨g, j * 23 + 8, none⟩)) (Or.inl ⟨by rfl, fun z hz => ?_⟩) ?_
        · go_simp
        try simp only [Act.put, List.setIfInBounds_toArray, List.set_cons_zero, List.set_cons_succ]
        refine WQ.yields (v := .agg (t.driver).toArray) (y_load (by rfl) 57 _ (by rfl) g (j * 23 + 8) (by rfl) (t.driver) _ 8 (fun z hz => range_below T1.driver hz T1.lt) Tryz.underlying57 rfl size23 hto.bk.2.1) ?_
        try simp only [Act.put, List.setIfInBounds_toArray, List.set_cons_zero, List.set_cons_succ]
        refine WQ.yields (v := .agg (d).toArray) (y_load (by rfl) 57 _ (by rfl) bd (0) (by rfl) (d) _ 8 (fun z hz => range_below RD hz LD) Tryz.underlying57 rfl size23 hd.1) ?_
        try simp only [Act.put, List.setIfInBounds_toArray, List.set_cons_zero, List.set_cons_succ]
        refine WQ.yields (v := .bool false) (y_eq (by rfl) false 57 _ _ _ (by rfl) (t.driver).toArray (d).toArray (.bool false) (by rfl) (by rfl) guard23 (eq_ii hto.bk.2 hd false ⟨fun e => (by cases e), fun e => (NO.out e).elim⟩)) ?_
        try simp only [Act.put, List.setIfInBounds_toArray, List.set_cons_zero, List.set_cons_succ]
        refine WQ.yields (v := .bool false) (Or.inl ⟨by rfl, fun z hz => ?_⟩) ?_
        · go_simp
        try simp only [Act.put, List.setIfInBounds_toArray, List.set_cons_zero, List.set_cons_succ]
        refine WQ.skip (by rfl) ?_
        try simp only [Act.put, List.setIfInBounds_toArray, List.set_cons_zero, List.set_cons_succ]
        refine WQ.skip (by rfl) ?_
        try simp only [Act.put, List.setIfInBounds_toArray, List.set_cons_zero, List.set_cons_succ]
        refine WQ.skip (by rfl) ?_
        try simp only [Act.put, List.setIfInBounds_toArray, List.set_cons_zero, List.set_cons_succ]
        refine WQ.skip (by rfl) ?_
        try simp only [Act.put, List.setIfInBounds_toArray, List.set_cons_zero, List.set_cons_succ]
        refine WQ.skip (by rfl) ?_
        try simp only [Act.put, List.setIfInBounds_toArray, List.set_cons_zero, List.set_cons_succ]
        refine WQ.skip (by rfl) ?_
        try simp only [Act.put, List.setIfInBounds_toArray, List.set_cons_zero, List.set_cons_succ]
        refine WQ.skip (by rfl) ?_
        try simp only [Act.put, List.setIfInBounds_toArray, List.set_cons_zero, List.set_cons_succ]
        refine WQ.skip (by rfl) ?_
        try simp only [Act.put, List.setIfInBounds_toArray, List.set_cons_zero, List.set_cons_succ]
        refine WQ.yields (v := .bool false) (Or.inl ⟨by rfl, fun z hz => ?_⟩) ?_
        · go_simp
        try simp only [Act.put, List.setIfInBounds_toArray, List.set_cons_zero, List.set_cons_succ]
        refine WQ.nil ?_
        intro z hz2
        have S5 := S.up hz2
        clear S T1 RD LD hz2 hto hd LR CC
        go_wp2_with fail
        go_roundg (gk - 1)
        case measure => have := HJ.out; omega
        case rel => exact ⟨j + 1, by have := HJ.out; omega, by have := HJ.out; go_num, take_no HNO.out HM.out (fun e => NO.out e.2), S5⟩
    · obtain rfl : j = q.l.length := by omega
      have q1 := S.at (b := bz) (o := .cells Z40 83 (0, 0)) (by simp)
      have S3 := S.refill (b := bz) (cs := Z40) (t := 83) (by simp) hzz Z40
      go_wp2_with (first
        | (refine wpList_build rfl 83 (by rfl) (.agg Z40) build40 ?_)
        | (refine wpList_storerow rfl 83 _ _ (by rfl) bz (by rfl) Z40 Z40 (by rfl) q1 size40 rfl z40o ?_)
        | fail)
      refine bodyPost_ret (v := .tuple #[.agg Z40, .bool false]) ?_ rfl (gives_of_eq ?_ S3.1)
      · exact results_cell (b := bz) (tt := 83) rfl rfl rfl (S3.at (by simp)) Tryz.underlying83 rfl size40
      · cases hf : q.onD d with
        | none => rfl
        | some t =>
          obtain ⟨h1, h2, h3⟩ := onD_some hf
          exact (HNO.out t (by rw [List.take_length]; exact h1) ⟨h2, h3⟩).elim
end
end Go.Proofs.YtnooghehmgbemaaGreat
