/- TripPlays: the reference: Assign. -/
import Derived.Test.YtnooghehmgbemaaGreatP4
namespace Go.Proofs.YtnooghehmgbemaaGreat
open Go.RowKit
set_option linter.unusedVariables false
set_option linter.unusedSimpArgs false

/-- what a call does to the reference's trips and to the world -/
def RTurns (F : Nat → Prop) (rb : Nat) (r : Int × St) (w : World) : Ending → World → Prop := fun e w' => e = .returned (.int .i64 r.1) ∧ ∃ F' : Nat → Prop, RefAt F' w' rb r.2 ∧ Lies F w w' ∧ ∀ j, F' j → F j ∨ w.heap.size ≤ j
theorem rturns_same {F : Nat → Prop} {w : World} {rb : Nat} {q : St} (h : RefAt F w rb q) {e : Ending} {w' : World} {n : Int} (he : e = .returned (.int .i64 n)) (hb : Below w.heap.size w w') : RTurns F rb (n, q) w e w' :=
  ⟨he, F, h.of_lies (X := fun _ => False) (Lies.of_below hb) (fun _ _ => id), Lies.of_below hb, fun _ hj => .inl hj⟩
/-- what the reference asks of a trip -/
def Hits (k : List Value) (t : Tr) : Prop := t.k = k ∨ (t.on ∧ (t.rider = k.take 8 ∨ t.driver = k.drop 8))
theorem hits_iff {l : List Tr} {k : List Value} : (∃ t ∈ l, Hits k t) ↔ ((∃ t ∈ l, t.k = k) ∨ (∃ t ∈ l, t.on ∧ t.rider = k.take 8) ∨ (∃ t ∈ l, t.on ∧ t.driver = k.drop 8)) := by
  constructor
  · rintro ⟨t, ht, h | ⟨ho, h | h⟩⟩
    · exact .inl ⟨t, ht, h⟩
    · exact .inr (.inl ⟨t, ht, ho, h⟩)
    · exact .inr (.inr ⟨t, ht, ho, h⟩)
  · rintro (⟨t, ht, h⟩ | ⟨t, ht, ho, h⟩ | ⟨t, ht, ho, h⟩)
    · exact ⟨t, ht, .inl h⟩
    · exact ⟨t, ht, .inr ⟨ho, .inl h⟩⟩
    · exact ⟨t, ht, .inr ⟨ho, .inr h⟩⟩
theorem build81 (tick : Int) (u : World) : (Instr.build 81 #[(0, .int .i64 (-1)), (1, .int .i64 tick), (2, .int .i64 (-1)), (3, .int .i64 (-1)), (4, .int .i64 (-1)), (5, .int .i64 (-1))]).run Tryz.prog u = .ok (.agg #[.int .i64 (-1), .int .i64 tick, .int .i64 (-1), .int .i64 (-1), .int .i64 (-1), .int .i64 (-1)]) u := by kernel_rfl
theorem build83n {k : List Value} (hk : Bs 16 k) (tick : Int) (u : World) : (Instr.build 83 #[(0, .agg k.toArray), (1, .int .u8 1), (2, .agg #[.int .i64 (-1), .int .i64 tick, .int .i64 (-1), .int .i64 (-1), .int .i64 (-1), .int .i64 (-1)])]).run Tryz.prog u = .ok (.agg (newTr k tick).cells.toArray) u := by
  obtain ⟨a0, a1, a2, a3, a4, a5, a6, a7, a8, a9, a10, a11, a12, a13, a14, a15, rfl⟩ := list16 hk.1
  kernel_rfl
/-- wpList_eq_g, the walk stopped behind it -/
theorem wpList_eq_p {P : Program} {ops : Array Oper} {rest : List Oper} {op : Oper} {a : Act} {w : World} {Q : Exit → Act → World → Prop} (hw : Region.wanted op (yielded ops a.tmps) = true) (ne : Bool) (t s : TypeId) (x y : Operand) (ho : op.op = .binOp (if ne then .neq else .eql) t x y s) (xs ys : Array Value) (v : Value) (hx : a.eval x = .agg xs) (hy : a.eval y = .agg ys) (hm : P.eqGuardType P.depth t = false) (hr : (binOp (if ne then .neq else .eql) t (.agg xs) (.agg ys)).run P w = .ok v w) (h : Pause (wpList P ops Q rest (a.put op.dst v) w)) : wpList P ops Q (op :: rest) a w :=
  wpList_eq_g hw ne t s x y ho xs ys v hx hy hm hr h.out
theorem size64 : (Tryz.prog.info? 64).map (·.size) = some 1 := by kernel_rfl
theorem y_build {P : Program} {ops : Array Oper} {S : World → Prop} {op : Oper} {a : Act} (hw : Region.wanted op (yielded ops a.tmps) = true) (t : TypeId) (ps : Array (Nat × Operand)) (vs : Array (Nat × Value)) (ho : op.op = .build t ps) (v : Value) (he : (ps.map fun (i, x) => (i, a.eval x)) = vs) (hb : ∀ u : World, (Instr.build t vs).run P u = .ok v u) : YieldsIf P ops S op v a :=
  .inl ⟨hw, fun u _ => by
    unfold execOp
    simp only [ho, Sem.run_bind, Sem.run_pure]
    rw [show (Array.map (fun x => (x.fst, a.eval x.snd)) ps) = vs from he, hb u]; rfl⟩
section
variable {F : Nat → Prop} {w : World} {rb : Nat} {q : St}
set_option maxRecDepth 20000 in
set_option maxHeartbeats 16000000 in
theorem ref_assign (hA : RefAt F w rb q) (hq : q.ok) (hn : q.l.length ≤ 1048576) (tick : Int) (k : List Value) (hk : Bs 16 k) : Calls Tryz.prog 15 #[.pointer (some ⟨rb, 0, none⟩), .int .i64 tick, .agg k.toArray] w (RTurns F rb (q.assign tick k) w) := by
  classical
  have HA := Lib.hid hA
  obtain ⟨hF, v, h⟩ := hA
  have HQ := Lib.hid hq
  have HK := Lib.hid hk
  have HR := Lib.hid (fun (u : World) (bs : List (Nat × Obj)) (s : Bk w bs u) => h.bk hF s)
  have HV := Lib.hid h.rowT
  have HF := Lib.hid hF
  have HAT := Lib.hid (fun (u : World) (bs : List (Nat × Obj)) (s : Bk w bs u) => Calls.mono (R' := fun e w' => e = .returned (.int .i64 (atE tick q.clock)) ∧ Bk w bs w') (ref_at rb tick q.clock u (h.bk hF s).c.2) (fun e w' ⟨he, hw⟩ => ⟨he, hw ▸ s⟩))
  have S0 : Bk w [] w := ⟨Below.refl _ w, by simp⟩
  have S := S0.alloc (.cells k.toArray 59)
  obtain ⟨ao, cap, ev, _⟩ := h.rowT
  subst ev
  clear hq hk S0 h hF
  go_enter Tryz.func15, Tryz.ntmps15
  go_wp2_with fail
  refine (HAT.out _ _ S).mono ?_
  clear S
  obtain ⟨bk, hbk⟩ : ∃ bk, bk = w.heap.size := ⟨_, rfl⟩
  rw [← hbk]
  have HBK := Lib.hid hbk
  clear hbk
  rintro e w1 ⟨rfl, S⟩
  by_cases he : atE tick q.clock = 0
  · have hit : (∃ t ∈ q.l, Hits k t) → q.assign tick k = (130, q) := fun hx => by
      unfold St.assign; rw [if_neg (by simpa using he), if_pos (hits_iff.1 hx)]
    have miss : (¬ ∃ t ∈ q.l, Hits k t) → q.assign tick k = (0, ⟨tick, q.l ++ [newTr k tick]⟩) := fun hx => by
      unfold St.assign; rw [if_neg (by simpa using he), if_neg (fun e => hx (hits_iff.2 e))]
    have HIT := Lib.hid hit
    have MISS := Lib.hid miss
    have HE := Lib.hid he
    rw [he]
    clear he hit miss
    go_wp2_with fail
    go_loopg [8] q.l.length (fun gk v8 wr => ∃ j : Nat, j + gk = q.l.length ∧ v8 = .int .i64 j ∧ (∀ t ∈ q.l.take j, ¬ Hits k t) ∧ Bk w [(bk, .cells k.toArray 59 (0, 0))] wr)
    case atStart => exact ⟨0, by omega, rfl, by simp, S⟩
    case round =>
      clear S
      obtain ⟨j, hj, rfl, hno, S⟩ := hrel
      have HNO := Lib.hid hno
      clear hno
      have c0 := (HR.out _ _ S).c.1
      by_cases hlt : j < q.l.length
      · obtain ⟨t, ht⟩ : ∃ t, q.l[j]? = some t := ⟨_, List.getElem?_eq_getElem hlt⟩
        have htm := List.mem_of_getElem? ht
        have hto := HQ.out.ok t htm
        obtain ⟨g, c, e1, T1⟩ := HV.out.get HQ.out.ok ht
        cases e1
        have ra := (T1.below S.1 (Nat.le_refl _)).all
        have HM := Lib.hid ht
        have HTM := Lib.hid htm
        have HTO := Lib.hid hto
        have HJ := Lib.hid (And.intro hj hlt)
        clear ht htm hto T1
        have hlt' := HTO.out.length
        have hot := all_oneCell_toArray HTO.out.one
        have T := S.box Z40 t.cells.toArray 83
        go_wp2_with (first
          | (refine wpList_loadmid_g (by rfl) 83 _ (by rfl) g (j * 23) (by rfl) t.cells _ ra Tryz.underlying83 rfl (by rw [hlt']; exact size40) ?_)
          | (refine wpList_allocz rfl 83 (by rfl) Z40 23 zero40 ?_)
          | (refine wpList_storerow rfl 83 _ _ (by rfl) wr.heap.size (by rfl) Z40 t.cells.toArray (by rfl) (heap_last wr _) (by rw [List.size_toArray, hlt']; exact size40) (by rw [z40s, List.size_toArray, hlt']) hot ?_)
          | (refine wpList_pause 59 _ (by rfl) ⟨wr.heap.size, 0, none⟩ (by rfl) ?_)
          | fail)
        refine Pause.mk ?_
        clear ra hot S c0
        have S := T
        clear T
        generalize (wr.alloc (.cells Z40 83)).setRow wr.heap.size t.cells.toArray = u3 at *
        generalize wr.heap.size = bn at *
        have qb := S.at (b := bn) (o := .cells t.cells.toArray 83 (0, 0)) (by simp)
        have kb : u3.rangeAt bn 0 t.k := by have := (box_in HTO.out qb).key; rwa [Nat.zero_mul] at this
        have kk : u3.rangeAt bk 0 k := range_sub (S.at (b := bk) (o := .cells k.toArray 59 (0, 0)) (by simp)) 0 (a := []) (z := []) (by simp) rfl
        have hka := HTO.out.k.1
        have hkk := HK.out.1
        by_cases ek : t.k = k
        · have NO := Lib.hid ek
          have HEQ : Hid (true = true ↔ t.k = k) := Lib.hid ⟨fun _ => ek, fun _ => rfl⟩
          clear ek
          go_wp2_with (first
            | (refine wpList_loadmid_g (by rfl) 59 _ (by rfl) bn 0 (by rfl) t.k _ kb Tryz.underlying59 rfl (by rw [hka]; exact size25) ?_)
            | (refine wpList_loadmid_g (by rfl) 59 _ (by rfl) bk 0 (by rfl) k _ kk Tryz.underlying59 rfl (by rw [hkk]; exact size25) ?_)
            | (refine wpList_eq_p (by rfl) false 59 _ _ _ (by rfl) t.k.toArray k.toArray (.bool true) (by rfl) (by rfl) guard25 (eq_jj HTO.out.k HK.out true HEQ.out _) ?_)
            | (refine wpList_loadrow_g (by rfl) 83 _ (by rfl) bn (by rfl) t.cells.toArray 83 _ qb Tryz.underlying83 rfl (by rw [List.size_toArray, hlt']; exact size40) ?_)
            | fail)
          refine Pause.mk ?_
          go_wp2_with fail
          go_ret
          rw [HIT.out ⟨t, HTM.out, .inl NO.out⟩]
          exact rturns_same HA.out rfl S.1
        · have NO := Lib.hid ek
          have HEQ : Hid (false = true ↔ t.k = k) := Lib.hid ⟨fun e => (by cases e), fun e => (ek e).elim⟩
          clear ek
          go_wp2_with (first
            | (refine wpList_loadmid_g (by rfl) 59 _ (by rfl) bn 0 (by rfl) t.k _ kb Tryz.underlying59 rfl (by rw [hka]; exact size25) ?_)
            | (refine wpList_loadmid_g (by rfl) 59 _ (by rfl) bk 0 (by rfl) k _ kk Tryz.underlying59 rfl (by rw [hkk]; exact size25) ?_)
            | (refine wpList_eq_g (by rfl) false 59 _ _ _ (by rfl) t.k.toArray k.toArray (.bool false) (by rfl) (by rfl) guard25 (eq_jj HTO.out.k HK.out false HEQ.out _) ?_)
            | (refine wpList_loadrow_g (by rfl) 83 _ (by rfl) bn (by rfl) t.cells.toArray 83 _ qb Tryz.underlying83 rfl (by rw [List.size_toArray, hlt']; exact size40) ?_)
            | fail)
          clear kb kk qb hka hkk hlt'
          by_cases ot : t.on
          · refine (S.gives (on_ok t HTO.out true (onB_on.2 ot) _)).mono ?_
            clear S
            rintro e w4 ⟨rfl, S4⟩
            by_cases er : t.rider = k.take 8
            · have HRI := Lib.hid (eq_ii HTO.out.bk.1 (Bs.take (m := 8) HK.out) true ⟨fun _ => er, fun _ => rfl⟩)
              have ER := Lib.hid er
              clear er
              have kb : w4.rangeAt bn 0 t.rider := by have := (box_in HTO.out (S4.at (b := bn) (o := .cells t.cells.toArray 83 (0, 0)) (by simp))).rider; rwa [Nat.zero_mul] at this
              have db : w4.rangeAt bn 8 t.driver := by have := (box_in HTO.out (S4.at (b := bn) (o := .cells t.cells.toArray 83 (0, 0)) (by simp))).driver; rwa [Nat.zero_mul, Nat.zero_add] at this
              have kk : w4.rangeAt bk 0 (k.take 8) := range_sub (S4.at (b := bk) (o := .cells k.toArray 59 (0, 0)) (by simp)) 0 (a := []) (z := k.drop 8) (by simp) rfl
              have dk : w4.rangeAt bk 8 (k.drop 8) := range_sub (S4.at (b := bk) (o := .cells k.toArray 59 (0, 0)) (by simp)) 8 (a := k.take 8) (z := []) (by simp) (by rw [List.length_take, HK.out.1]; rfl)
              have l1 := HTO.out.bk.1.1
              have l2 := HTO.out.bk.2.1
              have l3 := (Bs.take (n := 8) (m := 8) HK.out).1
              have l4 := (Bs.drop (n := 8) (m := 8) HK.out).1
              go_wp2_with (first
                | (refine wpList_loadmid_g (by rfl) 57 _ (by rfl) bn 0 (by rfl) t.rider _ kb Tryz.underlying57 rfl (by rw [l1]; exact size23) ?_)
                | (refine wpList_loadmid_g (by rfl) 57 _ (by rfl) bk 0 (by rfl) (k.take 8) _ kk Tryz.underlying57 rfl (by rw [l3]; exact size23) ?_)
                | (refine wpList_loadmid_g (by rfl) 57 _ (by rfl) bn 8 (by rfl) t.driver _ db Tryz.underlying57 rfl (by rw [l2]; exact size23) ?_)
                | (refine wpList_loadmid_g (by rfl) 57 _ (by rfl) bk 8 (by rfl) (k.drop 8) _ dk Tryz.underlying57 rfl (by rw [l4]; exact size23) ?_)
                | (refine wpList_eq_p (by rfl) false 57 _ _ _ (by rfl) t.rider.toArray (k.take 8).toArray (.bool true) (by rfl) (by rfl) guard23 (HRI.out _) ?_)
                | fail)
              refine Pause.mk ?_
              go_wp2_with fail
              go_ret
              rw [HIT.out ⟨t, HTM.out, .inr ⟨ot, .inl ER.out⟩⟩]
              exact rturns_same HA.out rfl S4.1
            · have HRI := Lib.hid (eq_ii HTO.out.bk.1 (Bs.take (m := 8) HK.out) false ⟨fun e => (by cases e), fun e => (er e).elim⟩)
              have ER := Lib.hid er
              clear er
              by_cases ed : t.driver = k.drop 8
              · have HDR := Lib.hid (eq_ii HTO.out.bk.2 (Bs.drop (n := 8) HK.out) true ⟨fun _ => ed, fun _ => rfl⟩)
                have ED := Lib.hid ed
                clear ed
                have kb : w4.rangeAt bn 0 t.rider := by have := (box_in HTO.out (S4.at (b := bn) (o := .cells t.cells.toArray 83 (0, 0)) (by simp))).rider; rwa [Nat.zero_mul] at this
                have db : w4.rangeAt bn 8 t.driver := by have := (box_in HTO.out (S4.at (b := bn) (o := .cells t.cells.toArray 83 (0, 0)) (by simp))).driver; rwa [Nat.zero_mul, Nat.zero_add] at this
                have kk : w4.rangeAt bk 0 (k.take 8) := range_sub (S4.at (b := bk) (o := .cells k.toArray 59 (0, 0)) (by simp)) 0 (a := []) (z := k.drop 8) (by simp) rfl
                have dk : w4.rangeAt bk 8 (k.drop 8) := range_sub (S4.at (b := bk) (o := .cells k.toArray 59 (0, 0)) (by simp)) 8 (a := k.take 8) (z := []) (by simp) (by rw [List.length_take, HK.out.1]; rfl)
                have l1 := HTO.out.bk.1.1
                have l2 := HTO.out.bk.2.1
                have l3 := (Bs.take (n := 8) (m := 8) HK.out).1
                have l4 := (Bs.drop (n := 8) (m := 8) HK.out).1
                go_wp2_with (first
                  | (refine wpList_loadmid_g (by rfl) 57 _ (by rfl) bn 0 (by rfl) t.rider _ kb Tryz.underlying57 rfl (by rw [l1]; exact size23) ?_)
                  | (refine wpList_loadmid_g (by rfl) 57 _ (by rfl) bk 0 (by rfl) (k.take 8) _ kk Tryz.underlying57 rfl (by rw [l3]; exact size23) ?_)
                  | (refine wpList_loadmid_g (by rfl) 57 _ (by rfl) bn 8 (by rfl) t.driver _ db Tryz.underlying57 rfl (by rw [l2]; exact size23) ?_)
                  | (refine wpList_loadmid_g (by rfl) 57 _ (by rfl) bk 8 (by rfl) (k.drop 8) _ dk Tryz.underlying57 rfl (by rw [l4]; exact size23) ?_)
                  | (refine wpList_eq_g (by rfl) false 57 _ _ _ (by rfl) t.rider.toArray (k.take 8).toArray (.bool false) (by rfl) (by rfl) guard23 (HRI.out _) ?_)
                  | (refine wpList_eq_g (by rfl) false 57 _ _ _ (by rfl) t.driver.toArray (k.drop 8).toArray (.bool true) (by rfl) (by rfl) guard23 (HDR.out _) ?_)
                  | fail)
                go_ret
                rw [HIT.out ⟨t, HTM.out, .inr ⟨ot, .inr ED.out⟩⟩]
                exact rturns_same HA.out rfl S4.1
              · have HDR := Lib.hid (eq_ii HTO.out.bk.2 (Bs.drop (n := 8) HK.out) false ⟨fun e => (by cases e), fun e => (ed e).elim⟩)
                have ED := Lib.hid ed
                clear ed
                have kb : w4.rangeAt bn 0 t.rider := by have := (box_in HTO.out (S4.at (b := bn) (o := .cells t.cells.toArray 83 (0, 0)) (by simp))).rider; rwa [Nat.zero_mul] at this
                have db : w4.rangeAt bn 8 t.driver := by have := (box_in HTO.out (S4.at (b := bn) (o := .cells t.cells.toArray 83 (0, 0)) (by simp))).driver; rwa [Nat.zero_mul, Nat.zero_add] at this
                have kk : w4.rangeAt bk 0 (k.take 8) := range_sub (S4.at (b := bk) (o := .cells k.toArray 59 (0, 0)) (by simp)) 0 (a := []) (z := k.drop 8) (by simp) rfl
                have dk : w4.rangeAt bk 8 (k.drop 8) := range_sub (S4.at (b := bk) (o := .cells k.toArray 59 (0, 0)) (by simp)) 8 (a := k.take 8) (z := []) (by simp) (by rw [List.length_take, HK.out.1]; rfl)
                have l1 := HTO.out.bk.1.1
                have l2 := HTO.out.bk.2.1
                have l3 := (Bs.take (n := 8) (m := 8) HK.out).1
                have l4 := (Bs.drop (n := 8) (m := 8) HK.out).1
                go_wp2_with (first
                  | (refine wpList_loadmid_g (by rfl) 57 _ (by rfl) bn 0 (by rfl) t.rider _ kb Tryz.underlying57 rfl (by rw [l1]; exact size23) ?_)
                  | (refine wpList_loadmid_g (by rfl) 57 _ (by rfl) bk 0 (by rfl) (k.take 8) _ kk Tryz.underlying57 rfl (by rw [l3]; exact size23) ?_)
                  | (refine wpList_loadmid_g (by rfl) 57 _ (by rfl) bn 8 (by rfl) t.driver _ db Tryz.underlying57 rfl (by rw [l2]; exact size23) ?_)
                  | (refine wpList_loadmid_g (by rfl) 57 _ (by rfl) bk 8 (by rfl) (k.drop 8) _ dk Tryz.underlying57 rfl (by rw [l4]; exact size23) ?_)
                  | (refine wpList_eq_g (by rfl) false 57 _ _ _ (by rfl) t.rider.toArray (k.take 8).toArray (.bool false) (by rfl) (by rfl) guard23 (HRI.out _) ?_)
                  | (refine wpList_eq_g (by rfl) false 57 _ _ _ (by rfl) t.driver.toArray (k.drop 8).toArray (.bool false) (by rfl) (by rfl) guard23 (HDR.out _) ?_)
                  | fail)
                go_roundg (gk - 1)
                case measure => have := HJ.out; omega
                case rel => exact ⟨j + 1, by have := HJ.out; omega, by have := HJ.out; go_num, take_no HNO.out HM.out (fun e => e.elim NO.out (fun e => e.2.elim ER.out ED.out)), S4.sub (by simp)⟩
          · refine (S.gives (on_ok t HTO.out false (by cases he : t.onB with | false => rfl | true => exact (ot (onB_on.1 he)).elim) _)).mono ?_
            clear S
            rintro e w4 ⟨rfl, S4⟩
            go_wp2_with fail
            go_roundg (gk - 1)
            case measure => have := HJ.out; omega
            case rel => exact ⟨j + 1, by have := HJ.out; omega, by have := HJ.out; go_num, take_no HNO.out HM.out (fun e => e.elim NO.out (fun e => ot e.1)), S4.sub (by simp)⟩
      · obtain rfl : j = q.l.length := by omega
        go_wp2_with fail
        clear c0
        have R0 := HR.out _ _ S
        have s2 := S.at (b := bk) (o := .cells k.toArray 59 (0, 0)) (by simp)
        have s4 := R0.hd
        have zrb := R0.lt
        have hown := R0.row
        have nrb : Value.ownBlock (.slice ao q.l.length cap) ≠ some rb := fun e => by
          rcases hown.2 with ⟨h, _⟩ | ⟨g, cap', cur, h, _, h1, _⟩
          · rw [h] at e; cases e
          · rw [h] at e; injection e with e; rw [← e] at s4; rw [s4] at h1; injection h1 with h1; injection h1 with h1 h2; cases h2
        have HNT := Lib.hid (new_okT HK.out (atE_zero HE.out).1 (atE_zero HE.out).2.1)
        refine wp_region_held_drew (S := (fun u => Lies F wr u ∧ u.heap[bk]? = some (.cells k.toArray 59 (0, 0)))) (by kernel_rfl) (⟨(Lies.refl F wr).drew, s2⟩) ?_
        intro hS
        refine wpAnyH_take (i := 0) (oi := { dst := some 56, op := Op.move (Operand.tmp 0), type := 26, pos := "ref.go:52", after := #[], guard := none }) (v := .pointer (some ⟨rb, 0, none⟩)) rfl (by kernel_rfl) (by kernel_rfl) (by kernel_rfl) (fun _ _ _ h => h) (Or.inl ⟨by rfl, ?_⟩) (by assumption) ?_
        · intro z hz
          go_simp
        try simp only [Act.put, List.setIfInBounds_toArray, List.set_cons_zero, List.set_cons_succ]
        refine wpAnyH_take (i := 1) (oi := { dst := some 57, op := Op.move (Operand.tmp 0), type := 26, pos := "ref.go:52", after := #[], guard := none }) (v := .pointer (some ⟨rb, 0, none⟩)) rfl (by kernel_rfl) (by kernel_rfl) (by kernel_rfl) (fun _ _ _ h => h) (Or.inl ⟨by rfl, ?_⟩) (by assumption) ?_
        · intro z hz
          go_simp
        try simp only [Act.put, List.setIfInBounds_toArray, List.set_cons_zero, List.set_cons_succ]
        refine wpAnyH_take (i := 2) (oi := { dst := some 58, op := Op.nilCheck (Operand.tmp 57), type := 0, pos := "ref.go:52", after := #[{ on := 1, ground := Ground.data }], guard := none }) (v := .pointer (some ⟨rb, 0, none⟩)) rfl (by kernel_rfl) (by kernel_rfl) (by kernel_rfl) (fun _ _ _ h => h) (Or.inl ⟨by rfl, ?_⟩) (by assumption) ?_
        · intro z hz
          go_simp
        try simp only [Act.put, List.setIfInBounds_toArray, List.set_cons_zero, List.set_cons_succ]
        refine wpAnyH_take (i := 3) (oi := { dst := some 59, op := Op.fieldAddr 77 (Operand.tmp 58) 0, type := 0, pos := "ref.go:52", after := #[{ on := 2, ground := Ground.data }], guard := none }) (v := .pointer (some ⟨rb, 0, none⟩)) rfl (by kernel_rfl) (by kernel_rfl) (by kernel_rfl) (fun _ _ _ h => h) (Or.inl ⟨by rfl, ?_⟩) (by assumption) ?_
        · intro z hz
          go_simp
        try simp only [Act.put, List.setIfInBounds_toArray, List.set_cons_zero, List.set_cons_succ]
        refine wpAnyH_take (i := 5) (oi := { dst := some 61, op := Op.load 59 (Operand.tmp 5), type := 59, pos := "ref.go:52", after := #[], guard := none }) (v := .agg k.toArray) rfl (by kernel_rfl) (by kernel_rfl) (by kernel_rfl) (fun _ _ _ h => h) (yields_loadrow (by rfl) 59 _ (by rfl) bk (by rfl) k.toArray 59 _ (fun u hu => hu.2) Tryz.underlying59 rfl (by rw [List.size_toArray, HK.out.1]; exact size25)) (by assumption) ?_
        try simp only [Act.put, List.setIfInBounds_toArray, List.set_cons_zero, List.set_cons_succ]
        refine wpAnyH_take (i := 6) (oi := { dst := some 62, op := Op.move (Operand.tmp 1), type := 3, pos := "ref.go:52", after := #[], guard := none }) (v := .int .i64 tick) rfl (by kernel_rfl) (by kernel_rfl) (by kernel_rfl) (fun _ _ _ h => h) (Or.inl ⟨by rfl, ?_⟩) (by assumption) ?_
        · intro z hz
          go_simp
        try simp only [Act.put, List.setIfInBounds_toArray, List.set_cons_zero, List.set_cons_succ]
        refine wpAnyH_take (i := 7) (oi := { dst := some 63, op := Op.build 81 #[(0, Operand.const (Value.int IntKind.i64 (-1))), (1, Operand.tmp 62), (2, Operand.const (Value.int IntKind.i64 (-1))), (3, Operand.const (Value.int IntKind.i64 (-1))), (4, Operand.const (Value.int IntKind.i64 (-1))), (5, Operand.const (Value.int IntKind.i64 (-1)))], type := 81, pos := "ref.go:52", after := #[{ on := 6, ground := Ground.data }], guard := none }) (v := .agg #[.int .i64 (-1), .int .i64 tick, .int .i64 (-1), .int .i64 (-1), .int .i64 (-1), .int .i64 (-1)]) rfl (by kernel_rfl) (by kernel_rfl) (by kernel_rfl) (fun _ _ _ h => h) (y_build (by rfl) 81 _ #[(0, .int .i64 (-1)), (1, .int .i64 tick), (2, .int .i64 (-1)), (3, .int .i64 (-1)), (4, .int .i64 (-1)), (5, .int .i64 (-1))] (by rfl) _ (by simp only [List.map_toArray, List.map_cons, List.map_nil]; rfl) (build81 tick)) (by assumption) ?_
        try simp only [Act.put, List.setIfInBounds_toArray, List.set_cons_zero, List.set_cons_succ]
        refine wpAnyH_take (i := 8) (oi := { dst := some 64, op := Op.build 83 #[(0, Operand.tmp 61), (1, Operand.const (Value.int IntKind.u8 1)), (2, Operand.tmp 63)], type := 83, pos := "ref.go:52", after := #[{ on := 5, ground := Ground.data }, { on := 7, ground := Ground.data }], guard := none }) (v := .agg (newTr k tick).cells.toArray) rfl (by kernel_rfl) (by kernel_rfl) (by kernel_rfl) (fun _ _ _ h => h) (y_build (by rfl) 83 _ #[(0, .agg k.toArray), (1, .int .u8 1), (2, .agg #[.int .i64 (-1), .int .i64 tick, .int .i64 (-1), .int .i64 (-1), .int .i64 (-1), .int .i64 (-1)])] (by rfl) _ (by simp only [List.map_toArray, List.map_cons, List.map_nil]; rfl) (build83n HK.out tick)) (by assumption) ?_
        try simp only [Act.put, List.setIfInBounds_toArray, List.set_cons_zero, List.set_cons_succ]
        refine wpAnyH_ready (rs := [4, 9]) (by kernel_rfl) (by simp) ?_
        refine AllReadyH.cons (o := { dst := some 60, op := Op.load 64 (Operand.tmp 59), type := 64, pos := "ref.go:52", after := #[{ on := 3, ground := Ground.data }], guard := none }) rfl (fun K hK => ?_) (AllReadyH.cons (o := { dst := some 65, op := Op.buildSlice 64 1 #[(0, Operand.tmp 64)], type := 64, pos := "ref.go:52", after := #[{ on := 8, ground := Ground.data }], guard := none }) rfl (fun K hK => ?_) AllReadyH.nil)
        · rw [if_pos (by rfl)]
          refine wp_load1 64 83 _ (by rfl) ⟨rb, 0, none⟩ (by rfl) (.slice ao q.l.length cap) Tryz.underlying64 (cell_of_row wr.drew rb 0 _ _ _ (s4)) ?_
          refine hK.out _ _ (hS) ?_
          clear hK K
          intro hS
          try simp only [Act.put, List.setIfInBounds_toArray, List.set_cons_zero, List.set_cons_succ]
          refine wpAnyH_ready (rs := [9]) (by kernel_rfl) (by simp) ?_
          refine AllReadyH.cons (o := { dst := some 65, op := Op.buildSlice 64 1 #[(0, Operand.tmp 64)], type := 64, pos := "ref.go:52", after := #[{ on := 8, ground := Ground.data }], guard := none }) rfl (fun K hK => ?_) AllReadyH.nil
          rw [if_pos (by rfl)]
          refine wp_build1 64 83 (.tmp 64) (by rfl) (newTr k tick).cells.toArray Z40 23 72 Tryz.underlying64 info40 (by rfl) (by rw [List.size_toArray, HNT.out.length]) rfl (by omega) (by omega) ?_
          refine hK.out _ _ (⟨hS.1.alloc _, (Below.heap_alloc _ _ _ (Array.getElem?_eq_some_iff.1 hS.2).1).trans hS.2⟩) ?_
          clear hK K
          intro hS
          try simp only [Act.put, List.setIfInBounds_toArray, List.set_cons_zero, List.set_cons_succ]
          obtain ⟨i0, hi0, hi1, hi2, hi3⟩ := info_parts info40
          refine wpAnyH_ready (rs := [10]) (by kernel_rfl) (by simp) ?_
          refine AllReadyH.cons (o := { dst := some 66, op := Op.call { callee := Callee.builtin Builtin.append, args := #[Operand.tmp 60, Operand.tmp 65], argTypes := #[64, 64] }, type := 64, pos := "ref.go:52", after := #[{ on := 4, ground := Ground.data }, { on := 9, ground := Ground.data }], guard := none }) rfl (fun K hK => ?_) AllReadyH.nil
          refine step_append_lies _ rfl (.tmp 60) (.tmp 65) 64 rfl 0 83 i0 (.agg Z40) 23 72 Tryz.underlying64 hi0 hi1 hi2 hi3 rfl (by omega) (.slice ao q.l.length cap) q.l.length _ rfl (World.ownsRow.alloc (w := wr.drew) hown _) ⟨wr.drew.heap.size, 0, none⟩ 1 1 (newTr k tick).cells rfl (by rw [HNT.out.length]) (by have := World.news_of_block (heap_last wr.drew (.cells (newTr k tick).cells.toArray 83)); simpa using this) HNT.out.one (by omega) (by simp only [maxLen]; omega) (by omega) (Nat.zero_le _) _ rfl ?_
          intro g3 cap3 w3 hown4 hgrow4 hat4 hlt4
          have h5 : w3.heap[bk]? = some (.cells k.toArray 59 (0, 0)) := (hgrow4.block bk (Array.getElem?_eq_some_iff.1 hS.2).1 (fun e => by have := HF.out bk (R0.fo bk e.symm); have := HBK.out; omega)).trans hS.2
          have hL4 : Lies F wr w3 := hS.1.grown hgrow4 (fun x hx => .inl (R0.fo x hx))
          have keep4 : ∀ j, j < wr.heap.size → Value.ownBlock (.slice ao q.l.length cap) ≠ some j → w3.heap[j]? = wr.heap[j]? := fun j hj hne => (hgrow4.block j (by show j < (wr.drew.alloc (.cells (newTr k tick).cells.toArray 83)).heap.size; rw [World.size_alloc]; exact Nat.lt_succ_of_lt hj) (fun e => hne e.symm)).trans (Below.heap_alloc _ _ _ hj)
          have hgv : Value.ownBlock (.slice ao q.l.length cap) = some g3 ∨ wr.heap.size < g3 := hat4.imp id (fun e => by rw [e]; show wr.heap.size < (wr.drew.alloc _).heap.size; rw [World.size_alloc]; exact Nat.lt_succ_self _)
          refine hK.out _ _ (⟨hL4, h5⟩) ?_
          clear hK K
          intro hS
          try simp only [Act.put, List.setIfInBounds_toArray, List.set_cons_zero, List.set_cons_succ]
          refine wpAnyH_take (i := 11) (oi := { dst := some 67, op := Op.nilCheck (Operand.tmp 56), type := 0, pos := "ref.go:52", after := #[{ on := 0, ground := Ground.data }, { on := 0, ground := Ground.phase }, { on := 1, ground := Ground.phase }, { on := 2, ground := Ground.phase }, { on := 3, ground := Ground.phase }, { on := 4, ground := Ground.phase }, { on := 5, ground := Ground.phase }, { on := 6, ground := Ground.phase }, { on := 7, ground := Ground.phase }, { on := 8, ground := Ground.phase }, { on := 9, ground := Ground.phase }, { on := 10, ground := Ground.phase }], guard := none }) (v := .pointer (some ⟨rb, 0, none⟩)) rfl (by kernel_rfl) (by kernel_rfl) (by kernel_rfl) (fun _ _ _ h => h) (Or.inl ⟨by rfl, ?_⟩) (by assumption) ?_
          · intro z hz
            go_simp
          try simp only [Act.put, List.setIfInBounds_toArray, List.set_cons_zero, List.set_cons_succ]
          refine wpAnyH_take (i := 12) (oi := { dst := some 68, op := Op.fieldAddr 77 (Operand.tmp 67) 0, type := 0, pos := "ref.go:52", after := #[{ on := 11, ground := Ground.data }, { on := 0, ground := Ground.phase }, { on := 1, ground := Ground.phase }, { on := 2, ground := Ground.phase }, { on := 3, ground := Ground.phase }, { on := 4, ground := Ground.phase }, { on := 5, ground := Ground.phase }, { on := 6, ground := Ground.phase }, { on := 7, ground := Ground.phase }, { on := 8, ground := Ground.phase }, { on := 9, ground := Ground.phase }, { on := 10, ground := Ground.phase }], guard := none }) (v := .pointer (some ⟨rb, 0, none⟩)) rfl (by kernel_rfl) (by kernel_rfl) (by kernel_rfl) (fun _ _ _ h => h) (Or.inl ⟨by rfl, ?_⟩) (by assumption) ?_
          · intro z hz
            go_simp
          try simp only [Act.put, List.setIfInBounds_toArray, List.set_cons_zero, List.set_cons_succ]
          refine wpAnyH_ready (rs := [13]) (by kernel_rfl) (by simp) ?_
          refine AllReadyH.cons (o := { dst := none, op := Op.store 64 (Operand.tmp 68) (Operand.tmp 66), type := 0, pos := "ref.go:52", after := #[{ on := 12, ground := Ground.data }, { on := 10, ground := Ground.data }, { on := 10, ground := Ground.chain }, { on := 0, ground := Ground.phase }, { on := 1, ground := Ground.phase }, { on := 2, ground := Ground.phase }, { on := 3, ground := Ground.phase }, { on := 4, ground := Ground.phase }, { on := 5, ground := Ground.phase }, { on := 6, ground := Ground.phase }, { on := 7, ground := Ground.phase }, { on := 8, ground := Ground.phase }, { on := 9, ground := Ground.phase }, { on := 10, ground := Ground.phase }], guard := none }) rfl (fun K hK => ?_) AllReadyH.nil
          rw [if_pos (by rfl)]
          refine wp_store1 64 _ _ (by rfl) rb 0 (by rfl) (.slice (some ⟨g3, 0, none⟩) (q.l.length + 1) cap3) (by rfl) ((keep4 rb zrb nrb).trans s4) (by simp) size64 rfl rfl ?_
          refine hK.out _ _ (⟨hS.1.setRow (.inl R0.fr) _, (setRow_other _ _ _ _ (by have := HF.out rb R0.fr; have := HBK.out; omega)).trans hS.2⟩) ?_
          clear hK K
          intro hS
          try simp only [Act.put, List.setIfInBounds_toArray, List.set_cons_zero, List.set_cons_succ]
          refine wpAnyH_done (by kernel_rfl) ?_ _
          have hd7 := setRow_heap w3 rb _ #[.slice (some ⟨g3, 0, none⟩) (q.l.length + 1) cap3, .int .i64 q.clock] _ _ ((keep4 rb zrb nrb).trans s4)
          have ng3 : rb ≠ g3 := hgv.elim (fun e e' => nrb (by rw [e, e'])) (fun e => by omega)
          have hown7 := World.ownsRow.kept hown4 (grown_setRow w3 rb #[.slice (some ⟨g3, 0, none⟩) (q.l.length + 1) cap3, .int .i64 q.clock]) (.inr (fun e => ng3 (by injection e with e; exact e.symm)))
          have L7 : Lies F wr (w3.setRow rb #[.slice (some ⟨g3, 0, none⟩) (q.l.length + 1) cap3, .int .i64 q.clock]) := hL4.setRow (.inl R0.fr) _
          have hlt7 : g3 < (w3.setRow rb #[.slice (some ⟨g3, 0, none⟩) (q.l.length + 1) cap3, .int .i64 q.clock]).heap.size := by simpa using hlt4
          clear hS
          generalize w3.setRow rb #[.slice (some ⟨g3, 0, none⟩) (q.l.length + 1) cap3, .int .i64 q.clock] = W7 at *
          clear hown4 hgrow4 hat4 hL4 h5 keep4
          have HG := Lib.hid hgv
          have HL7 := Lib.hid hlt7
          clear hgv hlt7
          go_wp2_with (refine wpList_store1 rfl 3 _ _ (by rfl) rb 1 (by rfl) (.int .i64 tick) (by rfl) hd7 (by simp) size3 rfl rfl ?_)
          go_ret
          rw [MISS.out (fun ⟨t, ht, h⟩ => HNO.out t (by rw [List.take_length]; exact ht) h)]
          refine ⟨rfl, (fun j => F j ∨ j = g3), ⟨?_, .slice (some ⟨g3, 0, none⟩) (q.l.length + 1) cap3, ?_⟩, ?_, ?_⟩
          · rintro j (hj | rfl)
            · have := HF.out j hj; have := L7.size; have := S.1.size; simp; omega
            · have := HL7.out; simpa using this
          · exact {
              hd := setRow_heap _ _ _ _ _ _ hd7
              row := by
                have := World.ownsRow.kept hown7 (grown_setRow W7 rb #[.slice (some ⟨g3, 0, none⟩) (q.l.length + 1) cap3, .int .i64 tick]) (.inr (fun e => ng3 (by injection e with e; exact e.symm)))
                simpa using this
              fr := .inl R0.fr
              fo := fun g hg => .inr (by injection hg with hg; exact hg.symm) }
          · exact ((Lies.of_below (X := F) S.1).trans L7).setRow (.inl R0.fr) _
          · rintro j (hj | rfl)
            · exact .inl hj
            · rcases HG.out with e | e
              · exact .inl (R0.fo _ e)
              · exact .inr (by have := S.1.size; omega)
        · rw [if_pos (by rfl)]
          refine wp_build1 64 83 (.tmp 64) (by rfl) (newTr k tick).cells.toArray Z40 23 72 Tryz.underlying64 info40 (by rfl) (by rw [List.size_toArray, HNT.out.length]) rfl (by omega) (by omega) ?_
          refine hK.out _ _ (⟨hS.1.alloc _, (Below.heap_alloc _ _ _ (Array.getElem?_eq_some_iff.1 hS.2).1).trans hS.2⟩) ?_
          clear hK K
          intro hS
          try simp only [Act.put, List.setIfInBounds_toArray, List.set_cons_zero, List.set_cons_succ]
          refine wpAnyH_ready (rs := [4]) (by kernel_rfl) (by simp) ?_
          refine AllReadyH.cons (o := { dst := some 60, op := Op.load 64 (Operand.tmp 59), type := 64, pos := "ref.go:52", after := #[{ on := 3, ground := Ground.data }], guard := none }) rfl (fun K hK => ?_) AllReadyH.nil
          rw [if_pos (by rfl)]
          refine wp_load1 64 83 _ (by rfl) ⟨rb, 0, none⟩ (by rfl) (.slice ao q.l.length cap) Tryz.underlying64 (cell_of_row (wr.drew.alloc (.cells (newTr k tick).cells.toArray 83)) rb 0 _ _ _ ((Below.heap_alloc _ _ _ zrb).trans s4)) ?_
          refine hK.out _ _ (hS) ?_
          clear hK K
          intro hS
          try simp only [Act.put, List.setIfInBounds_toArray, List.set_cons_zero, List.set_cons_succ]
          obtain ⟨i0, hi0, hi1, hi2, hi3⟩ := info_parts info40
          refine wpAnyH_ready (rs := [10]) (by kernel_rfl) (by simp) ?_
          refine AllReadyH.cons (o := { dst := some 66, op := Op.call { callee := Callee.builtin Builtin.append, args := #[Operand.tmp 60, Operand.tmp 65], argTypes := #[64, 64] }, type := 64, pos := "ref.go:52", after := #[{ on := 4, ground := Ground.data }, { on := 9, ground := Ground.data }], guard := none }) rfl (fun K hK => ?_) AllReadyH.nil
          refine step_append_lies _ rfl (.tmp 60) (.tmp 65) 64 rfl 0 83 i0 (.agg Z40) 23 72 Tryz.underlying64 hi0 hi1 hi2 hi3 rfl (by omega) (.slice ao q.l.length cap) q.l.length _ rfl (World.ownsRow.alloc (w := wr.drew) hown _) ⟨wr.drew.heap.size, 0, none⟩ 1 1 (newTr k tick).cells rfl (by rw [HNT.out.length]) (by have := World.news_of_block (heap_last wr.drew (.cells (newTr k tick).cells.toArray 83)); simpa using this) HNT.out.one (by omega) (by simp only [maxLen]; omega) (by omega) (Nat.zero_le _) _ rfl ?_
          intro g3 cap3 w3 hown4 hgrow4 hat4 hlt4
          have h5 : w3.heap[bk]? = some (.cells k.toArray 59 (0, 0)) := (hgrow4.block bk (Array.getElem?_eq_some_iff.1 hS.2).1 (fun e => by have := HF.out bk (R0.fo bk e.symm); have := HBK.out; omega)).trans hS.2
          have hL4 : Lies F wr w3 := hS.1.grown hgrow4 (fun x hx => .inl (R0.fo x hx))
          have keep4 : ∀ j, j < wr.heap.size → Value.ownBlock (.slice ao q.l.length cap) ≠ some j → w3.heap[j]? = wr.heap[j]? := fun j hj hne => (hgrow4.block j (by show j < (wr.drew.alloc (.cells (newTr k tick).cells.toArray 83)).heap.size; rw [World.size_alloc]; exact Nat.lt_succ_of_lt hj) (fun e => hne e.symm)).trans (Below.heap_alloc _ _ _ hj)
          have hgv : Value.ownBlock (.slice ao q.l.length cap) = some g3 ∨ wr.heap.size < g3 := hat4.imp id (fun e => by rw [e]; show wr.heap.size < (wr.drew.alloc _).heap.size; rw [World.size_alloc]; exact Nat.lt_succ_self _)
          refine hK.out _ _ (⟨hL4, h5⟩) ?_
          clear hK K
          intro hS
          try simp only [Act.put, List.setIfInBounds_toArray, List.set_cons_zero, List.set_cons_succ]
          refine wpAnyH_take (i := 11) (oi := { dst := some 67, op := Op.nilCheck (Operand.tmp 56), type := 0, pos := "ref.go:52", after := #[{ on := 0, ground := Ground.data }, { on := 0, ground := Ground.phase }, { on := 1, ground := Ground.phase }, { on := 2, ground := Ground.phase }, { on := 3, ground := Ground.phase }, { on := 4, ground := Ground.phase }, { on := 5, ground := Ground.phase }, { on := 6, ground := Ground.phase }, { on := 7, ground := Ground.phase }, { on := 8, ground := Ground.phase }, { on := 9, ground := Ground.phase }, { on := 10, ground := Ground.phase }], guard := none }) (v := .pointer (some ⟨rb, 0, none⟩)) rfl (by kernel_rfl) (by kernel_rfl) (by kernel_rfl) (fun _ _ _ h => h) (Or.inl ⟨by rfl, ?_⟩) (by assumption) ?_
          · intro z hz
            go_simp
          try simp only [Act.put, List.setIfInBounds_toArray, List.set_cons_zero, List.set_cons_succ]
          refine wpAnyH_take (i := 12) (oi := { dst := some 68, op := Op.fieldAddr 77 (Operand.tmp 67) 0, type := 0, pos := "ref.go:52", after := #[{ on := 11, ground := Ground.data }, { on := 0, ground := Ground.phase }, { on := 1, ground := Ground.phase }, { on := 2, ground := Ground.phase }, { on := 3, ground := Ground.phase }, { on := 4, ground := Ground.phase }, { on := 5, ground := Ground.phase }, { on := 6, ground := Ground.phase }, { on := 7, ground := Ground.phase }, { on := 8, ground := Ground.phase }, { on := 9, ground := Ground.phase }, { on := 10, ground := Ground.phase }], guard := none }) (v := .pointer (some ⟨rb, 0, none⟩)) rfl (by kernel_rfl) (by kernel_rfl) (by kernel_rfl) (fun _ _ _ h => h) (Or.inl ⟨by rfl, ?_⟩) (by assumption) ?_
          · intro z hz
            go_simp
          try simp only [Act.put, List.setIfInBounds_toArray, List.set_cons_zero, List.set_cons_succ]
          refine wpAnyH_ready (rs := [13]) (by kernel_rfl) (by simp) ?_
          refine AllReadyH.cons (o := { dst := none, op := Op.store 64 (Operand.tmp 68) (Operand.tmp 66), type := 0, pos := "ref.go:52", after := #[{ on := 12, ground := Ground.data }, { on := 10, ground := Ground.data }, { on := 10, ground := Ground.chain }, { on := 0, ground := Ground.phase }, { on := 1, ground := Ground.phase }, { on := 2, ground := Ground.phase }, { on := 3, ground := Ground.phase }, { on := 4, ground := Ground.phase }, { on := 5, ground := Ground.phase }, { on := 6, ground := Ground.phase }, { on := 7, ground := Ground.phase }, { on := 8, ground := Ground.phase }, { on := 9, ground := Ground.phase }, { on := 10, ground := Ground.phase }], guard := none }) rfl (fun K hK => ?_) AllReadyH.nil
          rw [if_pos (by rfl)]
          refine wp_store1 64 _ _ (by rfl) rb 0 (by rfl) (.slice (some ⟨g3, 0, none⟩) (q.l.length + 1) cap3) (by rfl) ((keep4 rb zrb nrb).trans s4) (by simp) size64 rfl rfl ?_
          refine hK.out _ _ (⟨hS.1.setRow (.inl R0.fr) _, (setRow_other _ _ _ _ (by have := HF.out rb R0.fr; have := HBK.out; omega)).trans hS.2⟩) ?_
          clear hK K
          intro hS
          try simp only [Act.put, List.setIfInBounds_toArray, List.set_cons_zero, List.set_cons_succ]
          refine wpAnyH_done (by kernel_rfl) ?_ _
          have hd7 := setRow_heap w3 rb _ #[.slice (some ⟨g3, 0, none⟩) (q.l.length + 1) cap3, .int .i64 q.clock] _ _ ((keep4 rb zrb nrb).trans s4)
          have ng3 : rb ≠ g3 := hgv.elim (fun e e' => nrb (by rw [e, e'])) (fun e => by omega)
          have hown7 := World.ownsRow.kept hown4 (grown_setRow w3 rb #[.slice (some ⟨g3, 0, none⟩) (q.l.length + 1) cap3, .int .i64 q.clock]) (.inr (fun e => ng3 (by injection e with e; exact e.symm)))
          have L7 : Lies F wr (w3.setRow rb #[.slice (some ⟨g3, 0, none⟩) (q.l.length + 1) cap3, .int .i64 q.clock]) := hL4.setRow (.inl R0.fr) _
          have hlt7 : g3 < (w3.setRow rb #[.slice (some ⟨g3, 0, none⟩) (q.l.length + 1) cap3, .int .i64 q.clock]).heap.size := by simpa using hlt4
          clear hS
          generalize w3.setRow rb #[.slice (some ⟨g3, 0, none⟩) (q.l.length + 1) cap3, .int .i64 q.clock] = W7 at *
          clear hown4 hgrow4 hat4 hL4 h5 keep4
          have HG := Lib.hid hgv
          have HL7 := Lib.hid hlt7
          clear hgv hlt7
          go_wp2_with (refine wpList_store1 rfl 3 _ _ (by rfl) rb 1 (by rfl) (.int .i64 tick) (by rfl) hd7 (by simp) size3 rfl rfl ?_)
          go_ret
          rw [MISS.out (fun ⟨t, ht, h⟩ => HNO.out t (by rw [List.take_length]; exact ht) h)]
          refine ⟨rfl, (fun j => F j ∨ j = g3), ⟨?_, .slice (some ⟨g3, 0, none⟩) (q.l.length + 1) cap3, ?_⟩, ?_, ?_⟩
          · rintro j (hj | rfl)
            · have := HF.out j hj; have := L7.size; have := S.1.size; simp; omega
            · have := HL7.out; simpa using this
          · exact {
              hd := setRow_heap _ _ _ _ _ _ hd7
              row := by
                have := World.ownsRow.kept hown7 (grown_setRow W7 rb #[.slice (some ⟨g3, 0, none⟩) (q.l.length + 1) cap3, .int .i64 tick]) (.inr (fun e => ng3 (by injection e with e; exact e.symm)))
                simpa using this
              fr := .inl R0.fr
              fo := fun g hg => .inr (by injection hg with hg; exact hg.symm) }
          · exact ((Lies.of_below (X := F) S.1).trans L7).setRow (.inl R0.fr) _
          · rintro j (hj | rfl)
            · exact .inl hj
            · rcases HG.out with e | e
              · exact .inl (R0.fo _ e)
              · exact .inr (by have := S.1.size; omega)
  · have ef : q.assign tick k = (atE tick q.clock, q) := by unfold St.assign; rw [if_pos he]
    have EF := Lib.hid ef
    have d1 : (atE tick q.clock == 0) = false := by simpa using he
    clear he ef
    go_wp2_with fail
    go_ret
    rw [EF.out]
    exact rturns_same HA.out rfl S.1
end
end Go.Proofs.YtnooghehmgbemaaGreat
