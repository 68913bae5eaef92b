/- TripPlays: the reference: Go. -/
import Derived.Test.YtnooghehmgbemaaGreatP5
namespace Go.Proofs.YtnooghehmgbemaaGreat
open Go.RowKit
set_option linter.unusedVariables false
set_option linter.unusedSimpArgs false

theorem flat_set {m : Nat} : ∀ (xs : List (List Value)) (j : Nat) (c : List Value), xs[j]? = some c → (∀ x ∈ xs, x.length = m) → ∀ (i : Nat), i < m → ∀ v, (xs.flatMap id).set (j * m + i) v = (xs.set j (c.set i v)).flatMap id
  | [], j, c, h, _, _, _, _ => by simp at h
  | x :: xs, 0, c, h, hl, i, hi, v => by
    have hc : x = c := by simpa using h
    subst hc
    have hx := hl x (List.mem_cons_self ..)
    simp only [Nat.zero_mul, Nat.zero_add, List.flatMap_cons, id, List.set_cons_zero]
    rw [List.set_append_left _ _ (by omega)]
  | x :: xs, j + 1, c, h, hl, i, hi, v => by
    have hx := hl x (List.mem_cons_self ..)
    simp only [List.flatMap_cons, id, List.set_cons_succ]
    rw [List.set_append_right _ _ (by rw [hx, Nat.succ_mul]; omega), hx, show (j + 1) * m + i - m = j * m + i by rw [Nat.succ_mul]; omega]
    rw [flat_set xs j c (by simpa using h) (fun y hy => hl y (List.mem_cons_of_mem _ hy)) i hi v]
theorem cells_s16 {t : Tr} (ht : t.ok) (s : Int) : t.cells.set 16 (.int .u8 s) = t.k ++ .int .u8 s :: t.ts.map (.int .i64) := by
  rw [Tr.cells, List.set_append_right _ _ (by rw [ht.k.1]; omega), ht.k.1]; rfl
theorem cells_turned {t : Tr} (ht : t.ok) (s : Int) (n : Nat) (tick : Int) : (t.cells.set 16 (.int .u8 s)).set (17 + n) (.int .i64 tick) = Tr.cells ⟨t.k, s, t.ts.set n tick⟩ := by
  rw [cells_s16 ht, List.set_append_right _ _ (by rw [ht.k.1]; omega), ht.k.1, show 17 + n - 16 = n + 1 by omega, List.set_cons_succ, Tr.cells, List.map_set]
theorem set_turn {q : St} (hq : q.ok) {j : Nat} {t : Tr} (ht : q.l[j]? = some t) {k : List Value} (hk : t.k = k) (s tick : Int) : q.l.set j (turn k s tick t) = q.l.map (turn k s tick) := by
  apply List.ext_getElem?
  intro i
  rw [List.getElem?_set, List.getElem?_map]
  by_cases e : j = i
  · subst e
    rw [if_pos rfl, if_pos (List.getElem?_eq_some_iff.1 ht).1, ht]; rfl
  · rw [if_neg e]
    cases hi : q.l[i]? with
    | none => rfl
    | some u =>
      rw [Option.map_some, turn_off]
      intro h
      exact e (key_at hq ht hi (hk.trans h.symm))
theorem wpList_store1p {P : Program} {w : World} {ops : Array Oper} {rest : List Oper} {o : Oper} {a : Act} {Q : Exit → Act → World → Prop} (hgd : o.guard = none) (ty : TypeId) (x y : Operand) (ho : o.op = .store ty x y) (b off : Nat) (hx : a.eval x = .pointer (some ⟨b, off, none⟩)) (v : Value) (hy : a.eval y = v) {cs : Array Value} {t : TypeId} (hb : w.heap[b]? = some (.cells cs t (0, 0))) (hof : off < cs.size)
    (hi : (P.info? ty).map (·.size) = some 1) (hv : v.cells = #[v]) (h1 : v.oneCell' = true) (h : Pause (wpList P ops Q rest (a.put o.dst undef) (w.setRow b (cs.setIfInBounds off v)))) : wpList P ops Q (o :: rest) a w := wpList_store1 hgd ty x y ho b off hx v hy hb hof hi hv h1 h.out
section
variable {F : Nat → Prop} {w : World} {rb : Nat} {q : St}
set_option maxRecDepth 20000 in
set_option maxHeartbeats 16000000 in
theorem ref_go (hA : RefAt F w rb q) (hq : q.ok) (hn : q.l.length ≤ 1048576) (tick s : Int) (k : List Value) (hk : Bs 16 k) : Calls Tryz.prog 17 #[.pointer (some ⟨rb, 0, none⟩), .int .i64 tick, .agg k.toArray, .int .u8 s] w (RTurns F rb (q.go tick k s) w) := by
  have HA := Lib.hid hA
  obtain ⟨hF, v, h⟩ := hA
  have HQ := Lib.hid hq
  have HK := Lib.hid hk
  have HR := Lib.hid (fun (u : World) (bs : List (Nat × Obj)) (s : Bk w bs u) => h.bk hF s)
  have HP := Lib.hid (fun (u : World) (bs : List (Nat × Obj)) (s : Bk w bs u) (r : Int) (hr : PlaceIs q.l k r) => s.gives (ref_place (h.bk hF s) hq.ok hn k hk r hr))
  have HV := Lib.hid h.rowT
  have HF := Lib.hid hF
  have HAT := Lib.hid (fun (u : World) (bs : List (Nat × Obj)) (s : Bk w bs u) => Calls.mono (R' := fun e w' => e = .returned (.int .i64 (atE tick q.clock)) ∧ Bk w bs w') (ref_at rb tick q.clock u (h.bk hF s).c.2) (fun e w' ⟨he, hw⟩ => ⟨he, hw ▸ s⟩))
  have HFO := Lib.hid (fun (u : World) (bs : List (Nat × Obj)) (S : Bk w bs u) (was : Int) => Calls.mono (R' := fun e w' => e = .returned (.bool (fol was s)) ∧ Bk w bs w') (ref_follows was s u) (fun e w' ⟨he, hw⟩ => ⟨he, hw ▸ S⟩))
  have S0 : Bk w [] w := ⟨Below.refl _ w, by simp⟩
  have S := S0.alloc (.cells k.toArray 59)
  obtain ⟨bk, hbk⟩ : ∃ bk, bk = w.heap.size := ⟨_, rfl⟩
  have HBK := Lib.hid hbk
  by_cases hs : s < 2 ∨ 5 < s
  · have ef : q.go tick k s = (1, q) := by unfold St.go; rw [if_pos hs]
    have EF := Lib.hid ef
    clear hq hk S0 h hF ef hbk
    go_enter Tryz.func17, Tryz.ntmps17
    by_cases h2 : s < 2
    · clear hs
      go_wp2_with fail
      go_ret
      rw [EF.out]; exact rturns_same HA.out rfl S.1
    · have h5 : 5 < s := hs.resolve_left h2
      clear hs
      go_wp2_with fail
      go_ret
      rw [EF.out]; exact rturns_same HA.out rfl S.1
  have h2 : ¬ s < 2 := fun e => hs (.inl e)
  have h5 : ¬ 5 < s := fun e => hs (.inr e)
  clear hs
  by_cases he : atE tick q.clock = 0
  · have HE := Lib.hid he
    have none_ : q.find k = none → q.go tick k s = (131, q) := fun hf => by unfold St.go; rw [if_neg (by omega), if_neg (by simpa using he), hf]
    have some_ : ∀ t, q.find k = some t → q.go tick k s = if fol t.s s = true then (0, ⟨tick, q.l.map (turn k s tick)⟩) else (240, q) := fun t hf => by unfold St.go; rw [if_neg (by omega), if_neg (by simpa using he), hf]
    have HNO := Lib.hid none_
    have HSO := Lib.hid some_
    have hkl := hk.1
    obtain ⟨ao, cap, ev, _⟩ := h.rowT
    subst ev
    clear hq hk S0 h hF none_ some_
    go_enter Tryz.func17, Tryz.ntmps17
    go_wp2_with fail
    refine (HAT.out _ _ S).mono ?_
    rw [he]
    clear he S
    rw [← hbk]
    clear hbk
    rintro e w1 ⟨rfl, S⟩
    have q0 := S.at (b := bk) (o := .cells k.toArray 59 (0, 0)) (by simp)
    go_wp2_with (refine wpList_loadrow_g (by rfl) 59 _ (by rfl) bk (by rfl) k.toArray 59 _ q0 Tryz.underlying59 rfl (by rw [List.size_toArray, hkl]; exact size25) ?_)
    clear q0
    cases hf : q.find k with
    | none =>
      refine (HP.out _ _ S (-1) (.inl ⟨rfl, find_none hf⟩)).mono ?_
      have EF := Lib.hid (HNO.out hf)
      clear hf S
      rintro e w2 ⟨rfl, S⟩
      go_wp2_with fail
      go_ret
      rw [EF.out]; exact rturns_same HA.out rfl S.1
    | some t =>
      obtain ⟨htm, hkt⟩ := find_some hf
      obtain ⟨j, hj⟩ := List.mem_iff_getElem?.1 htm
      refine (HP.out _ _ S j (placeIs_some HQ.out hj hkt)).mono ?_
      have EF := Lib.hid (HSO.out t hf)
      clear hf S
      rintro e w2 ⟨rfl, S⟩
      have hto := HQ.out.ok t htm
      have HTO := Lib.hid hto
      obtain ⟨g, c, e1, T1⟩ := HV.out.get HQ.out.ok hj
      cases e1
      have c0 := (HR.out _ _ S).c.1
      have cs := (T1.below S.1 (Nat.le_refl _)).all 16 (.int .u8 t.s) (by rw [Tr.cells, List.getElem?_append_right (by rw [hto.k.1]; omega), hto.k.1]; rfl)
      have hjl := (List.getElem?_eq_some_iff.1 hj).1
      have HJ := Lib.hid hj
      have HKT := Lib.hid hkt
      clear T1 hto htm hj hkt
      go_wp2_with fail
      refine (HFO.out _ _ S t.s).mono ?_
      clear S
      rintro e w3 ⟨rfl, S⟩
      cases hfo : fol t.s s with
      | false =>
        have EF2 : q.go tick k s = (240, q) := by rw [EF.out, hfo]; rfl
        have EF2 := Lib.hid EF2
        clear hfo
        go_wp2_with fail
        go_ret
        rw [EF2.out]; exact rturns_same HA.out rfl S.1
      | true =>
        have EF2 : q.go tick k s = (0, ⟨tick, q.l.map (turn k s tick)⟩) := by rw [EF.out, hfo]; rfl
        have EF2 := Lib.hid EF2
        clear hfo c0 cs
        obtain ⟨n, rfl⟩ : ∃ n : Nat, s = n := ⟨s.toNat, by omega⟩
        have hn6 : n < 6 := by omega
        have R0 := HR.out _ _ S
        have hrow := R0.row
        have c0 := R0.c.1
        obtain ⟨g', cap', cur, ev, _, hb, hnc, hcm, hcs, htk⟩ := hrow.2.resolve_left (fun e => by rw [e.2] at hjl; omega)
        injection ev with ev1 _ ev2
        injection ev1 with ev1
        injection ev1 with ev1
        subst ev1 ev2
        have hrg : rb ≠ g := fun e => by
          have := R0.hd
          rw [e, hb] at this; injection this with this; injection this with _ this; cases this
        have hsz : j * 23 + 23 ≤ cur.size := by rw [hcs]; omega
        have HB := Lib.hid hb
        have HCS := Lib.hid hcs
        have HTK := Lib.hid htk
        have HRW := Lib.hid hrow.1
        have HNC := Lib.hid (And.intro hnc hcm)
        have HHD := Lib.hid R0.hd
        have HFR := Lib.hid R0.fr
        have HFO' := Lib.hid R0.fo
        clear R0 hrow hb hcs htk hnc hcm
        go_wp2_with (first
          | (refine wpList_store1p rfl 60 _ _ (by rfl) g (j * 23 + 16) (by rfl) (.int .u8 n) (by rfl) HB.out (by omega) size26 rfl rfl ?_)
          | fail)
        refine Pause.mk ?_
        have hbA := setRow_heap w3 g _ (cur.setIfInBounds (j * 23 + 16) (.int .u8 n)) _ _ HB.out
        have hdA : (w3.setRow g (cur.setIfInBounds (j * 23 + 16) (.int .u8 n))).heap[rb]? = _ := (setRow_other _ _ _ _ hrg).trans HHD.out
        have c0A : (w3.setRow g (cur.setIfInBounds (j * 23 + 16) (.int .u8 n))).cell? ⟨rb, 0, none⟩ = some (.slice (some ⟨g, 0, none⟩) q.l.length cap) := by rw [cell_of_row _ rb 0 _ _ _ hdA]; rfl
        have LA : Lies F w (w3.setRow g (cur.setIfInBounds (j * 23 + 16) (.int .u8 n))) := (Lies.of_below S.1).setRow (.inl (HFO'.out g rfl)) _
        have szA : j * 23 + 23 ≤ (cur.setIfInBounds (j * 23 + 16) (.int .u8 n)).size := by simpa using hsz
        obtain ⟨cA, hcA⟩ : ∃ cA, cA = cur.setIfInBounds (j * 23 + 16) (.int .u8 n) := ⟨_, rfl⟩
        rw [← hcA] at hbA hdA c0A LA szA ⊢
        have HCA := Lib.hid hcA
        clear hcA c0
        generalize w3.setRow g cA = uA at *
        have HBA := Lib.hid hbA
        have HDA := Lib.hid hdA
        clear hbA hdA
        go_wp2_with (first
          | (refine wpList_store1p rfl 3 _ _ (by rfl) g (j * 23 + 17 + n) (by rfl) (.int .i64 tick) (by rfl) HBA.out (by omega) size3 rfl rfl ?_)
          | fail)
        refine Pause.mk ?_
        have hbB := setRow_heap uA g _ (cA.setIfInBounds (j * 23 + 17 + n) (.int .i64 tick)) _ _ HBA.out
        have hdB : (uA.setRow g (cA.setIfInBounds (j * 23 + 17 + n) (.int .i64 tick))).heap[rb]? = _ := (setRow_other _ _ _ _ hrg).trans HDA.out
        have LB : Lies F w (uA.setRow g (cA.setIfInBounds (j * 23 + 17 + n) (.int .i64 tick))) := LA.setRow (.inl (HFO'.out g rfl)) _
        obtain ⟨cB, hcB⟩ : ∃ cB, cB = cA.setIfInBounds (j * 23 + 17 + n) (.int .i64 tick) := ⟨_, rfl⟩
        rw [← hcB] at hbB hdB LB ⊢
        have HCB := Lib.hid hcB
        clear hcB c0A szA LA
        generalize uA.setRow g cB = uB at *
        have HBB := Lib.hid hbB
        have HDB := Lib.hid hdB
        clear hbB hdB
        go_wp2_with (first
          | (refine wpList_store1p rfl 3 _ _ (by rfl) rb 1 (by rfl) (.int .i64 tick) (by rfl) HDB.out (by simp) size3 rfl rfl ?_)
          | fail)
        refine Pause.mk ?_
        have LC := LB.setRow (b := rb) (.inl HFR.out) #[.slice (some ⟨g, 0, none⟩) q.l.length cap, .int .i64 tick]
        have hdC := setRow_heap uB rb _ #[.slice (some ⟨g, 0, none⟩) q.l.length cap, .int .i64 tick] _ _ HDB.out
        have hbC : (uB.setRow rb #[.slice (some ⟨g, 0, none⟩) q.l.length cap, .int .i64 tick]).heap[g]? = _ := (setRow_other _ _ _ _ hrg.symm).trans HBB.out
        try rw [show (#[.slice (some ⟨g, 0, none⟩) q.l.length cap, .int .i64 q.clock] : Array Value).setIfInBounds 1 (.int .i64 tick) = #[.slice (some ⟨g, 0, none⟩) q.l.length cap, .int .i64 tick] from rfl]
        generalize uB.setRow rb #[.slice (some ⟨g, 0, none⟩) q.l.length cap, .int .i64 tick] = uC at *
        have HBC := Lib.hid hbC
        have HDC := Lib.hid hdC
        clear hbC hdC LB
        go_wp2_with fail
        go_ret
        try rw [EF2.out]
        have hlen : (q.l.map (turn k n tick)).length = q.l.length := by simp
        refine ⟨rfl, F, ⟨fun b hb => Nat.lt_of_lt_of_le (HF.out b hb) LC.size, .slice (some ⟨g, 0, none⟩) q.l.length cap, ?_⟩, LC, fun b hb => .inl hb⟩
        have hflat : cB.toList.take (q.l.length * 23) = ((q.l.map (turn k n tick)).map Tr.cells).flatMap id := by
          have hmj : (q.l.map Tr.cells)[j]? = some t.cells := by rw [List.getElem?_map, HJ.out]; rfl
          have hall : ∀ x ∈ q.l.map Tr.cells, x.length = 23 := fun x hx => by obtain ⟨y, hy, rfl⟩ := List.mem_map.1 hx; exact (HQ.out.ok y hy).length
          have hmj2 : ((q.l.map Tr.cells).set j (t.cells.set 16 (.int .u8 n)))[j]? = some (t.cells.set 16 (.int .u8 n)) := by
            rw [List.getElem?_set, if_pos rfl, if_pos (by simpa using hjl)]
          have hall2 : ∀ x ∈ (q.l.map Tr.cells).set j (t.cells.set 16 (.int .u8 n)), x.length = 23 := fun x hx => by
            rcases List.mem_or_eq_of_mem_set hx with h | rfl
            · exact hall x h
            · rw [List.length_set]; exact HTO.out.length
          rw [HCB.out, HCA.out, Array.toList_setIfInBounds, Array.toList_setIfInBounds, List.take_set, List.take_set, HTK.out]
          rw [flat_set _ j _ hmj hall 16 (by omega), Nat.add_assoc, flat_set _ j _ hmj2 hall2 (17 + n) (by omega), List.set_set, cells_turned HTO.out]
          rw [← set_turn HQ.out HJ.out HKT.out, List.map_set, turn_at HKT.out, Int.toNat_natCast]
        exact {
          hd := HDC.out
          row := by
            refine ⟨?_, .inr ⟨g, cap, cB, by rw [hlen], Nat.zero_le _, HBC.out, by rw [hlen]; exact HNC.out.1, HNC.out.2, ?_, by rw [hlen]; exact hflat⟩⟩
            · rw [← hflat, List.length_take, hlen, HCB.out, HCA.out]; simp [HCS.out]; have := HNC.out.1; omega
            · rw [HCB.out, HCA.out]; simp [HCS.out]
          fr := HFR.out
          fo := HFO'.out }
  · have ef : q.go tick k s = (atE tick q.clock, q) := by unfold St.go; rw [if_neg (by omega), if_pos he]
    have EF := Lib.hid ef
    have d1 : (atE tick q.clock == 0) = false := by simpa using he
    clear hq hk S0 h hF ef hbk
    go_enter Tryz.func17, Tryz.ntmps17
    go_wp2_with fail
    refine (HAT.out _ _ S).mono ?_
    clear S he
    rintro e w1 ⟨rfl, S⟩
    go_wp2_with fail
    go_ret
    rw [EF.out]
    exact rturns_same HA.out rfl S.1
end
end Go.Proofs.YtnooghehmgbemaaGreat
