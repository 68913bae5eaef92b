/- Trip: TripEnds, walked. -/
import Derived.Test.YtnooghehmgbemaaB28
import Derived.Deep.CutBlock
namespace Go.Proofs.Ytnooghehmgbemaa
open Go.RowKit
set_option linter.unusedVariables false
set_option linter.unusedSimpArgs false

theorem wp_callv {P : Program} {o : Oper} {a : Act} {w : World} {K : Act → World → Prop} {Q : Exit → Act → World → Prop} {f : FuncId} {args : Array Value} {v : Value} {R : World → Prop} (hx : (execOp a.eval o).run P w = .ok (.enter f args) w) (hc : Calls P f args w fun e w' => e = .returned v ∧ R w') (h : ∀ w', R w' → K (a.put o.dst v) w') : o.wp P a w K Q := by
  unfold Oper.wp
  rw [hx, Oper.upon_enter]
  exact hc.mono fun e w' ⟨he, hr⟩ => by subst he; exact h w' hr
theorem wpList_build4 {P : Program} {ops : Array Oper} {rest : List Oper} {o : Oper} {a : Act} {w : World} {Q : Exit → Act → World → Prop} (hgd : o.guard = none) (t : TypeId) (x y z s : Operand) (ho : o.op = .build t #[(0, x), (1, y), (2, z), (3, s)]) (xv yv zv sv v : Value) (hx : a.eval x = xv) (hy : a.eval y = yv) (hz : a.eval z = zv) (hs : a.eval s = sv) (hb : ∀ u : World, (Instr.build t #[(0, xv), (1, yv), (2, zv), (3, sv)]).run P u = .ok v u) (h : wpList P ops Q rest (a.put o.dst v) w) : wpList P ops Q (o :: rest) a w := by
  refine wpList_plain hgd fun _ hK => ?_
  unfold Oper.wp execOp
  simp only [ho, List.map_toArray, List.map_cons, List.map_nil, hx, hy, hz, hs, Sem.run_bind, Sem.run_pure, hb w, Result.andThen_ok]
  exact hK _ _ h
def R9 : List Value := [.int .u8 9, .int .u8 9, .int .u8 9, .int .u8 9, .int .u8 0, .int .u8 0, .int .u8 0, .int .u8 0]
theorem r9_ok : Bs 8 R9 := ⟨rfl, fun u hu => by
  simp only [R9, List.mem_cons, List.not_mem_nil, or_false] at hu
  rcases hu with rfl | rfl | rfl | rfl | rfl | rfl | rfl | rfl <;> exact ⟨_, rfl, by decide⟩⟩
theorem build_r9 (u : World) : (Instr.build 23 #[(0, .int .u8 9), (1, .int .u8 9), (2, .int .u8 9), (3, .int .u8 9)]).run Try.prog u = .ok (.agg R9.toArray) u := by kernel_rfl
theorem list8 {α : Type} {k : List α} (h : k.length = 8) : ∃ a0 a1 a2 a3 a4 a5 a6 a7, k = [a0, a1, a2, a3, a4, a5, a6, a7] := by
  match k, h with
  | [a0, a1, a2, a3, a4, a5, a6, a7], _ => exact ⟨a0, a1, a2, a3, a4, a5, a6, a7, rfl⟩
theorem build_j9 {d : List Value} (hd : Bs 8 d) (u : World) : (Instr.build 25 #[(0, .agg R9.toArray), (1, .agg d.toArray)]).run Try.prog u = .ok (.agg (R9 ++ d).toArray) u := by
  obtain ⟨a0, a1, a2, a3, a4, a5, a6, a7, rfl⟩ := list8 hd.1
  kernel_rfl
theorem Bs.append {n m : Nat} {a b : List Value} (ha : Bs n a) (hb : Bs m b) : Bs (n + m) (a ++ b) := ⟨by rw [List.length_append, ha.1, hb.1], fun u hu => (List.mem_append.1 hu).elim (ha.2 u) (hb.2 u)⟩
set_option maxRecDepth 20000 in
set_option maxHeartbeats 16000000 in
theorem ends_core (xs : List OpV) (ok : ∀ o ∈ xs, o.ok) (A : Option Addr) (n c : Nat) (k : List Value) (hk : Bs 16 k) (lost : Int) (w : World) (hR : Rd OpV.cells 19 w w.heap.size A n xs) : Calls Try.prog 5 #[.slice A n c, .agg k.toArray, .int .i64 lost] w (Gives (.bool true) w) := by
  have HR := Lib.hid hR
  have HOK := Lib.hid ok
  have HLN := Lib.hid hR.len
  have HK := Lib.hid hk
  clear hR ok hk
  have S0 : Bk w [] w := ⟨Below.refl _ w, by simp⟩
  have S := S0.alloc (.cells k.toArray 25)
  clear S0
  go_enter Try.func5, Try.ntmps5
  go_wp2_with fail
  refine (sit_new w (w.alloc (.cells k.toArray 25)) w.heap.size (Nat.le_refl _) S.1 [(w.heap.size, .cells k.toArray 25 (0, 0))] S.2).mono ?_
  clear S
  generalize hbk : w.heap.size = bk
  rintro e w1 ⟨tb, rfl, S1⟩
  obtain ⟨M, hM⟩ : ∃ M, M = min n 300 := ⟨_, rfl⟩
  have M1 : M ≤ n := by omega
  have M2 : M ≤ 300 := by omega
  have M3 : M = n ∨ M = 300 := by omega
  have HM3 := Lib.hid M3
  have HBK := Lib.hid hbk
  clear hM M3 hbk
  go_upto_block 0 with fail
  go_cut [8] from 9 to 68 (fun s8 wx => ∃ q : St, s8 = .int .i64 q.clock ∧ Sit bk w tb q [(bk, .cells k.toArray 25 (0, 0))] wx ∧ q.stands ∧ q.l.length ≤ 300)
  case first =>
    go_wp2_with fail
    go_loopg [8, 9] M (fun gk v8 v9 wr => ∃ (j : Nat) (q : St), j + gk = M ∧ v8 = .int .i64 q.clock ∧ v9 = .int .i64 j ∧ Sit bk w tb q [(bk, .cells k.toArray 25 (0, 0))] wr ∧ q.stands ∧ q.l.length ≤ j)
    case atStart => exact ⟨0, ⟨0, []⟩, by omega, rfl, rfl, S1, stands_new, Nat.le_refl _⟩
    case round =>
      clear S1
      obtain ⟨j, q, hj, rfl, rfl, S, hs, hl⟩ := hrel
      have HS := Lib.hid hs
      clear hs
      by_cases hlt : j < M
      · have hjn : j < n := by omega
        have hj3 : j < 300 := by omega
        obtain ⟨o, ho⟩ : ∃ o, xs[j]? = some o := ⟨_, List.getElem?_eq_getElem (by rw [HLN.out]; exact hjn)⟩
        have HO := Lib.hid (HOK.out o (List.mem_of_getElem? ho))
        obtain ⟨ab, ao, rfl, hab, ra⟩ := (HR.out.below (by rw [HBK.out]; exact S.below)).row ho
        have HJ := Lib.hid (And.intro hj (And.intro hlt hl))
        have T := S.box Z28 o.cells.toArray 28
        have hlo := HO.out.length
        have hoo := all_oneCell_toArray HO.out.one
        clear ho hab
        go_wp2_with (first
          | (refine wpList_loadmid_g (by rfl) 28 _ (by rfl) ab (ao + j * 19) (by rfl) o.cells _ ra Try.underlying28 rfl (by rw [hlo]; exact size28) ?_)
          | (refine wpList_allocz rfl 28 (by rfl) Z28 19 zero28 ?_)
          | (refine wpList_storerow rfl 28 _ _ (by rfl) wr.heap.size (by rfl) Z28 o.cells.toArray (by rfl) (heap_last wr _) (by rw [List.size_toArray, hlo]; exact size28) (by rw [z28s, List.size_toArray, hlo]) hoo ?_)
          | (refine wpList_pause 3 _ (by rfl) ⟨wr.heap.size, 0, none⟩ (by rfl) ?_)
          | fail)
        refine Pause.mk ?_
        clear ra S hlo hoo
        have S := T
        clear T
        generalize (wr.alloc (.cells Z28 28)).setRow wr.heap.size o.cells.toArray = u1 at *
        generalize wr.heap.size = bo at *
        have hq := S.ok
        have hl' : q.l.length ≤ 1048576 := by omega
        obtain ⟨k0, k1, k18, rk, rd⟩ := op_facts HO.out (S.at (b := bo) (o := .cells o.cells.toArray 28 (0, 0)) (by simp))
        have hok := HO.out.k
        have hkl := hok.1
        by_cases hk1 : o.kind = 1
        · have hk1b : (o.kind == 1) = true := by rw [hk1]; rfl
          have hk2b : (o.kind == 2) = false := by rw [hk1]; rfl
          have ST := Lib.hid (stepped_assign HS.out o.tick o.k)
          have hr := (stepped_assign HS.out o.tick o.k).len
          have CA := S.assign o.tick o.k hok hl'
          revert ST hr CA
          generalize q.assign o.tick o.k = r
          obtain ⟨rn, q'⟩ := r
          intro ST hr CA
          simp only at hr
          clear hk1
          go_wp2_with (refine wpList_loadmid_g (by rfl) 25 _ (by rfl) bo 2 (by rfl) o.k _ rk Try.underlying25 rfl (by rw [hkl]; exact size25) ?_)
          clear k0 k1 k18 rk rd hkl S
          refine CA.mono ?_
          clear CA
          rintro e w3 ⟨rfl, S⟩
          obtain ⟨k0, k1, k18, rk, rd⟩ := op_facts HO.out (S.at (b := bo) (o := .cells o.cells.toArray 28 (0, 0)) (by simp))
          clear k18 rk rd
          by_cases hz : rn = 0
          · subst hz
            obtain ⟨f1, f2, m, f3⟩ := ST.out.fine rfl
            have F2 := Lib.hid f2
            clear f1 f2 f3
            go_wp2_with fail
            go_roundg (gk - 1)
            case measure => have := HJ.out; omega
            case rel => exact ⟨j + 1, q', by have := HJ.out; omega, by rw [← F2.out], by have := HJ.out; go_num, S.sub (by simp), ST.out.stands, by have := HJ.out; omega⟩
          · have f := ST.out.not hz
            simp only at f
            subst f
            have d1 : (rn == 0) = false := by simpa using hz
            clear hz
            go_wp2_with fail
            go_roundg (gk - 1)
            case measure => have := HJ.out; omega
            case rel => exact ⟨j + 1, q', by have := HJ.out; omega, rfl, by have := HJ.out; go_num, S.sub (by simp), ST.out.stands, by have := HJ.out; omega⟩
        · have hk1b : (o.kind == 1) = false := by simpa using hk1
          clear hk1
          by_cases hk2 : o.kind = 2
          · have hk2b : (o.kind == 2) = true := by rw [hk2]; rfl
            have ST := Lib.hid (stepped_go hq HS.out o.tick o.s o.k)
            have hr := (stepped_go hq HS.out o.tick o.s o.k).len
            have CA := S.go o.tick o.s o.k hok
            revert ST hr CA
            generalize q.go o.tick o.k o.s = r
            obtain ⟨rn, q'⟩ := r
            intro ST hr CA
            simp only at hr
            clear hk2
            go_wp2_with (refine wpList_loadmid_g (by rfl) 25 _ (by rfl) bo 2 (by rfl) o.k _ rk Try.underlying25 rfl (by rw [hkl]; exact size25) ?_)
            clear k0 k1 k18 rk rd hkl S
            refine CA.mono ?_
            clear CA
            rintro e w3 ⟨rfl, S⟩
            obtain ⟨k0, k1, k18, rk, rd⟩ := op_facts HO.out (S.at (b := bo) (o := .cells o.cells.toArray 28 (0, 0)) (by simp))
            clear k18 rk rd
            by_cases hz : rn = 0
            · subst hz
              obtain ⟨f1, f2, m, f3⟩ := ST.out.fine rfl
              have F2 := Lib.hid f2
              clear f1 f2 f3
              go_wp2_with fail
              go_roundg (gk - 1)
              case measure => have := HJ.out; omega
              case rel => exact ⟨j + 1, q', by have := HJ.out; omega, by rw [← F2.out], by have := HJ.out; go_num, S.sub (by simp), ST.out.stands, by have := HJ.out; omega⟩
            · have f := ST.out.not hz
              simp only at f
              subst f
              have d1 : (rn == 0) = false := by simpa using hz
              clear hz
              go_wp2_with fail
              go_roundg (gk - 1)
              case measure => have := HJ.out; omega
              case rel => exact ⟨j + 1, q', by have := HJ.out; omega, rfl, by have := HJ.out; go_num, S.sub (by simp), ST.out.stands, by have := HJ.out; omega⟩
          · have hk2b : (o.kind == 2) = false := by simpa using hk2
            clear hk2 rk rd
            go_wp2_with fail
            go_roundg (gk - 1)
            case measure => have := HJ.out; omega
            case rel => exact ⟨j + 1, q, by have := HJ.out; omega, rfl, by have := HJ.out; go_num, S.sub (by simp), HS.out, by have := HJ.out; omega⟩
      · obtain rfl : j = M := by omega
        have hl3 : q.l.length ≤ 300 := by omega
        clear HOK HLN HR hlt hj hl M2
        by_cases e : j = n
        · subst e
          go_wp2_with fail
          go_meet
          exact ⟨q, rfl, S, HS.out, hl3⟩
        · have e3 : j = 300 := by
            rcases HM3.out with h | h
            · exact (e h).elim
            · exact h
          subst e3
          have h4 : 300 < n := by omega
          clear e M1
          go_wp2_with fail
          go_meet
          exact ⟨q, rfl, S, HS.out, hl3⟩
  case rest =>
    obtain ⟨q, rfl, S, hs, hl3⟩ := hcut
    have HBKK := HBK
    clear S1 hs HOK HLN HR M1 M2 HM3 HBK
    obtain ⟨C, l⟩ := q
    simp only at hl3 S
    have hl2 : l.length ≤ 1048576 := by omega
    go_wp2_with fail
    refine (S.listed hl2).mono ?_
    clear S
    rintro e w4 ⟨v, cs, rfl, S, hH⟩
    obtain ⟨ao, cap, rfl, _⟩ := hH
    replace S := S.sub (cs := [(bk, .cells k.toArray 25 (0, 0))]) (by simp)
    have hkl := HK.out.1
    have q4 := S.at (b := bk) (o := .cells k.toArray 25 (0, 0)) (by simp)
    have CA := S.assign C k HK.out hl2
    have AD := Lib.hid (fun h => assign_done (q := ⟨C, l⟩) (tick := C) (k := k) h)
    revert CA AD
    generalize St.assign ⟨C, l⟩ C k = r
    obtain ⟨rn, q'⟩ := r
    intro CA AD
    simp only at CA
    go_wp2_with (refine wpList_loadrow_g (by rfl) 25 _ (by rfl) bk (by rfl) k.toArray 25 _ q4 Try.underlying25 rfl (by rw [List.size_toArray, hkl]; exact size25) ?_)
    clear q4 hkl S
    refine CA.mono ?_
    clear CA
    rintro e w5 ⟨rfl, S⟩
    by_cases hz : rn = 0
    · subst hz
      obtain ⟨f1, nk, nd, t0, t1, _⟩ := AD.out rfl
      subst f1
      have HNK := Lib.hid nk
      have HND := Lib.hid nd
      have HT := Lib.hid (And.intro t0 t1)
      clear nk nd t0 t1 AD
      go_upto_if 80 with fail
      go_cut [12] from 79 to 84 (fun s12 wx => ∃ (ws : List Int) (us : Nat → Tr) (bw : Nat), s12 = .slice (some ⟨bw, 0, none⟩) ws.length ws.length ∧ ws.length ≤ 3 ∧ Led k C ws us ∧ Sit bk w tb ⟨C, l ++ [newTr k C]⟩ [(bw, .cells (ws.map (.int .u8)).toArray 26 (0, 0)), (bk, .cells k.toArray 25 (0, 0))] wx)
      case first =>
        by_cases h0 : lost = 0
        · have h0b : (lost == 0) = true := by rw [h0]; rfl
          clear h0
          go_wp2_with fail
          go_meet
          have T := (S.alloc (.cells #[.int .u8 2, .int .u8 3, .int .u8 4] 26)).alloc (.cells #[.int .u8 5] 26)
          rw [World.size_alloc] at T
          exact ⟨[5], _, w5.heap.size + 1, rfl, by decide, led_a k C, T.sub (by simp)⟩
        · have h0b : (lost == 0) = false := by simpa using h0
          clear h0
          by_cases h1 : lost = 1
          · have h1b : (lost == 1) = true := by rw [h1]; rfl
            clear h1
            go_wp2_with fail
            go_meet
            have T := (S.alloc (.cells #[.int .u8 2, .int .u8 3, .int .u8 4] 26)).alloc (.cells #[.int .u8 2, .int .u8 5] 26)
            rw [World.size_alloc] at T
            exact ⟨[2, 5], _, w5.heap.size + 1, rfl, by decide, led_b k C, T.sub (by simp)⟩
          · have h1b : (lost == 1) = false := by simpa using h1
            clear h1
            go_wp2_with fail
            go_meet
            exact ⟨[2, 3, 4], _, w5.heap.size, rfl, by decide, led_c k C, (S.alloc (.cells #[.int .u8 2, .int .u8 3, .int .u8 4] 26)).sub (by simp)⟩
      case rest =>
        obtain ⟨ws, us, bw, rfl, hws, hLed, S⟩ := hcut
        have HL := Lib.hid hLed
        clear hLed
        go_wp2_with fail
        go_loopg [13] ws.length (fun gk v13 wr => ∃ i : Nat, i + gk = ws.length ∧ v13 = .int .i64 i ∧ Sit bk w tb ⟨C, l ++ [us i]⟩ [(bw, .cells (ws.map (.int .u8)).toArray 26 (0, 0)), (bk, .cells k.toArray 25 (0, 0))] wr)
        case atStart => exact ⟨0, by omega, rfl, by rw [HL.out.first]; exact S⟩
        case round =>
          clear S
          obtain ⟨i, hi, rfl, S⟩ := hrel
          by_cases hlt : i < ws.length
          · obtain ⟨s, hs⟩ : ∃ s, ws[i]? = some s := ⟨_, List.getElem?_eq_getElem hlt⟩
            obtain ⟨h2, h3, hf, hu⟩ := HL.out.step i s hs
            have HC : Hid (∀ u, Sit bk w tb ⟨C, l ++ [us i]⟩ [(bw, .cells (ws.map (.int .u8)).toArray 26 (0, 0)), (bk, .cells k.toArray 25 (0, 0))] u → Calls Try.prog 7 #[.pointer (some ⟨tb, 0, none⟩), .int .i64 C, .agg k.toArray, .int .u8 s] u fun e w' => e = .returned (.int .i64 0) ∧ Sit bk w tb ⟨C, l ++ [us (i + 1)]⟩ [(bw, .cells (ws.map (.int .u8)).toArray 26 (0, 0)), (bk, .cells k.toArray 25 (0, 0))] w') := Lib.hid (fun u S => by
              have := S.go C s k HK.out
              rw [go_last HNK.out (HL.out.key i (Nat.le_of_lt hlt)) HT.out.1 HT.out.2 h2 h3 hf, ← hu] at this
              exact this)
            have HCS : Hid (∀ u, (∃ q, Sit bk w tb q [(bw, .cells (ws.map (.int .u8)).toArray 26 (0, 0)), (bk, .cells k.toArray 25 (0, 0))] u) → u.cell? ⟨bw, i, none⟩ = some (.int .u8 s)) := Lib.hid (fun u ⟨q, S⟩ => by
              rw [cell_of_row u bw i _ _ _ (S.at (b := bw) (o := .cells (ws.map (.int .u8)).toArray 26 (0, 0)) (by simp)), List.getElem?_toArray, List.getElem?_map, hs]; rfl)
            have HI := Lib.hid (And.intro hi hlt)
            clear hs h2 h3 hf hu
            go_wp2_with fail
            refine wp_region_held_drew (S := fun u => ∃ q, Sit bk w tb q [(bw, .cells (ws.map (.int .u8)).toArray 26 (0, 0)), (bk, .cells k.toArray 25 (0, 0))] u) (by kernel_rfl) (⟨_, S.drew⟩) ?_
            intro hS
            refine wpAnyH_take (i := 0) (oi := { dst := some 91, op := Op.move (Operand.tmp 7), type := 29, pos := "outright.go:164", after := #[], guard := none }) (v := .pointer (some ⟨tb, 0, none⟩)) rfl (by kernel_rfl) (by kernel_rfl) (by kernel_rfl) (fun _ _ _ h => h) (Or.inl ⟨by rfl, ?_⟩) (by assumption) ?_
            · intro z hz
              go_simp
            try simp only [Act.put, List.setIfInBounds_toArray, List.set_cons_zero, List.set_cons_succ]
            refine wpAnyH_take (i := 1) (oi := { dst := some 92, op := Op.move (Operand.tmp 8), type := 3, pos := "outright.go:164", after := #[], guard := none }) (v := .int .i64 C) rfl (by kernel_rfl) (by kernel_rfl) (by kernel_rfl) (fun _ _ _ h => h) (Or.inl ⟨by rfl, ?_⟩) (by assumption) ?_
            · intro z hz
              go_simp
            try simp only [Act.put, List.setIfInBounds_toArray, List.set_cons_zero, List.set_cons_succ]
            refine wpAnyH_take (i := 2) (oi := { dst := some 93, op := Op.load 25 (Operand.tmp 4), type := 25, pos := "outright.go:164", after := #[], guard := none }) (v := .agg k.toArray) rfl (by kernel_rfl) (by kernel_rfl) (by kernel_rfl) (fun _ _ _ h => h) (yields_loadrow (by rfl) 25 _ (by rfl) bk (by rfl) k.toArray 25 _ (fun u hu => by obtain ⟨q, hu⟩ := hu; exact hu.at (by simp)) Try.underlying25 rfl (by rw [List.size_toArray, HK.out.1]; exact size25)) (by assumption) ?_
            try simp only [Act.put, List.setIfInBounds_toArray, List.set_cons_zero, List.set_cons_succ]
            refine wpAnyH_take (i := 3) (oi := { dst := some 94, op := Op.move (Operand.tmp 12), type := 55, pos := "outright.go:164", after := #[], guard := none }) (v := .slice (some ⟨bw, 0, none⟩) ws.length ws.length) rfl (by kernel_rfl) (by kernel_rfl) (by kernel_rfl) (fun _ _ _ h => h) (Or.inl ⟨by rfl, ?_⟩) (by assumption) ?_
            · intro z hz
              go_simp
            try simp only [Act.put, List.setIfInBounds_toArray, List.set_cons_zero, List.set_cons_succ]
            refine wpAnyH_take (i := 4) (oi := { dst := some 95, op := Op.move (Operand.tmp 13), type := 3, pos := "outright.go:164", after := #[], guard := none }) (v := .int .i64 i) rfl (by kernel_rfl) (by kernel_rfl) (by kernel_rfl) (fun _ _ _ h => h) (Or.inl ⟨by rfl, ?_⟩) (by assumption) ?_
            · intro z hz
              go_simp
            try simp only [Act.put, List.setIfInBounds_toArray, List.set_cons_zero, List.set_cons_succ]
            refine wpAnyH_take (i := 5) (oi := { dst := some 96, op := Op.indexAddr 55 (Operand.tmp 94) (Operand.tmp 95), type := 0, pos := "outright.go:164", after := #[{ on := 3, ground := Ground.data }, { on := 4, ground := Ground.data }], guard := none }) (v := .pointer (some ⟨bw, i, none⟩)) rfl (by kernel_rfl) (by kernel_rfl) (by kernel_rfl) (fun _ _ _ h => h) (Or.inl ⟨by rfl, ?_⟩) (by assumption) ?_
            · intro z hz
              have hlt := HI.out.2
              go_simp
            try simp only [Act.put, List.setIfInBounds_toArray, List.set_cons_zero, List.set_cons_succ]
            refine wpAnyH_take (i := 6) (oi := { dst := some 97, op := Op.load 26 (Operand.tmp 96), type := 26, pos := "outright.go:164", after := #[{ on := 5, ground := Ground.data }], guard := none }) (v := .int .u8 s) rfl (by kernel_rfl) (by kernel_rfl) (by kernel_rfl) (fun _ _ _ h => h) (Or.inl ⟨by rfl, ?_⟩) (by assumption) ?_
            · intro z hz
              have c := HCS.out z hz
              go_simp
            try simp only [Act.put, List.setIfInBounds_toArray, List.set_cons_zero, List.set_cons_succ]
            refine wpAnyH_ready (rs := [7]) (by kernel_rfl) (by simp) ?_
            refine AllReadyH.cons (o := { dst := some 98, op := Op.call { callee := Callee.value (Operand.func 7), args := #[Operand.tmp 91, Operand.tmp 92, Operand.tmp 93, Operand.tmp 97], argTypes := #[29, 3, 25, 26] }, type := 35, pos := "outright.go:164", after := #[{ on := 0, ground := Ground.data }, { on := 1, ground := Ground.data }, { on := 2, ground := Ground.data }, { on := 6, ground := Ground.data }], guard := none }) rfl (fun K hK => ?_) AllReadyH.nil
            rw [if_pos (by rfl)]
            refine wp_callv (f := 7) (args := #[.pointer (some ⟨tb, 0, none⟩), .int .i64 C, .agg k.toArray, .int .u8 s]) (v := .int .i64 0) (by go_simp) (HC.out _ S.drew) ?_
            intro w7 S7
            refine hK.out _ _ ⟨_, S7⟩ ?_
            clear hK K hS
            intro hS
            try simp only [Act.put, List.setIfInBounds_toArray, List.set_cons_zero, List.set_cons_succ]
            refine wpAnyH_take (i := 8) (oi := { dst := some 99, op := Op.binOp BinOp.neq 35 (Operand.tmp 98) (Operand.const (Value.int IntKind.i64 0)) 35, type := 4, pos := "outright.go:164", after := #[{ on := 7, ground := Ground.data }], guard := none }) (v := .bool false) rfl (by kernel_rfl) (by kernel_rfl) (by kernel_rfl) (fun _ _ _ h => h) (Or.inl ⟨by rfl, ?_⟩) (by assumption) ?_
            · intro z hz
              go_simp
            try simp only [Act.put, List.setIfInBounds_toArray, List.set_cons_zero, List.set_cons_succ]
            refine wpAnyH_done (by kernel_rfl) ?_ _
            go_wp2_with fail
            go_roundg (gk - 1)
            case measure => have := HI.out; omega
            case rel => exact ⟨i + 1, by have := HI.out; omega, by have := HI.out; go_num, S7⟩
          · obtain rfl : i = ws.length := by omega
            have UK := Lib.hid (HL.out.key _ (Nat.le_refl _))
            have UL := Lib.hid HL.out.last
            revert UK UL S
            generalize us ws.length = U
            intro S UK UL
            replace S := S.sub (cs := [(bk, .cells k.toArray 25 (0, 0))]) (by simp)
            have q4 := S.at (b := bk) (o := .cells k.toArray 25 (0, 0)) (by simp)
            have hkl := HK.out.1
            have hlu : (l ++ [U]).length ≤ 1048576 := by simp; omega
            have UO := Lib.hid (S.ok.ok U (by simp))
            have UN := Lib.hid (show ¬ U.on from fun e => by rcases UL.out with h | h; exact e.1 h; exact e.2 h)
            go_wp2_with (refine wpList_loadrow_g (by rfl) 25 _ (by rfl) bk (by rfl) k.toArray 25 _ q4 Try.underlying25 rfl (by rw [List.size_toArray, hkl]; exact size25) ?_)
            clear q4 hkl
            have CA := S.get k HK.out
            rw [find_last HNK.out UK.out] at CA
            simp only [tripV] at CA
            refine CA.mono ?_
            clear CA S
            rintro e w8 ⟨rfl, S, _⟩
            have T := S.box Z40 U.cells.toArray 40
            have hlx := UO.out.length
            have hox := all_oneCell_toArray UO.out.one
            have rk : ((w8.alloc (.cells Z40 40)).setRow w8.heap.size U.cells.toArray).rangeAt bk 8 (k.drop 8) := range_sub (T.at (b := bk) (o := .cells k.toArray 25 (0, 0)) (by simp)) 8 (a := k.take 8) (z := []) (by simp) (by rw [List.length_take, HK.out.1]; rfl)
            have hdl : (k.drop 8).length = 8 := by rw [List.length_drop, HK.out.1]
            go_wp2_with (first
              | (refine wpList_allocz rfl 40 (by rfl) Z40 23 zero40 ?_)
              | (refine wpList_storerow rfl 40 _ _ (by rfl) w8.heap.size (by rfl) Z40 U.cells.toArray (by rfl) (heap_last w8 _) (by rw [List.size_toArray, hlx]; exact size40) (by rw [z40s, List.size_toArray, hlx]) hox ?_)
              | (refine wpList_loadmid_g (by rfl) 23 _ (by rfl) bk 8 (by rfl) (k.drop 8) _ rk Try.underlying23 rfl (by rw [hdl]; exact size23) ?_)
              | fail)
            clear rk hdl hox S
            have S := T
            clear T
            generalize (w8.alloc (.cells Z40 40)).setRow w8.heap.size U.cells.toArray = u8 at *
            generalize w8.heap.size = bx at *
            have CA := S.of (k.drop 8) (Bs.drop (n := 8) HK.out)
            rw [onD_last HND.out UN.out] at CA
            simp only [tripV] at CA
            refine CA.mono ?_
            clear CA S
            rintro e w9 ⟨rfl, S, _⟩
            have T := S.box Z40 Z40 40
            have q5 := T.at (b := bx) (o := .cells U.cells.toArray 40 (0, 0)) (by simp)
            go_wp2_with (first
              | (refine wpList_allocz rfl 40 (by rfl) Z40 23 zero40 ?_)
              | (refine wpList_storerow rfl 40 _ _ (by rfl) w9.heap.size (by rfl) Z40 Z40 (by rfl) (heap_last w9 _) size40 rfl z40o ?_)
              | (refine wpList_loadrow_g (by rfl) 40 _ (by rfl) bx (by rfl) U.cells.toArray 40 _ q5 Try.underlying40 rfl (by rw [List.size_toArray, hlx]; exact size40) ?_)
              | fail)
            clear q5 S
            have S := T
            clear T hlx
            generalize (w9.alloc (.cells Z40 40)).setRow w9.heap.size Z40 = u9 at *
            generalize w9.heap.size = by9 at *
            have ue : U.endB = true := by rcases UL.out with h | h <;> simp [Tr.endB, h]
            refine (S.gives (endB_t U UO.out true ue _)).mono ?_
            clear S ue
            rintro e w10 ⟨rfl, S, _⟩
            have q6 := S.at (b := bk) (o := .cells k.toArray 25 (0, 0)) (by simp)
            have hkl := HK.out.1
            go_wp2_with (refine wpList_loadrow_g (by rfl) 25 _ (by rfl) bk (by rfl) k.toArray 25 _ q6 Try.underlying25 rfl (by rw [List.size_toArray, hkl]; exact size25) ?_)
            clear q6 hkl
            have CA := S.assign C k HK.out hlu
            rw [assign_last UK.out HT.out.1 HT.out.2] at CA
            refine CA.mono ?_
            clear CA S
            rintro e w11 ⟨rfl, S⟩
            replace S := S.sub (cs := [(bk, .cells k.toArray 25 (0, 0))]) (by simp)
            go_wp2_with fail
            go_loopg [18] 4 (fun gk v18 wr => ∃ s : Nat, s + gk = 6 ∧ 2 ≤ s ∧ v18 = .int .u8 s ∧ Sit bk w tb ⟨C, l ++ [U]⟩ [(bk, .cells k.toArray 25 (0, 0))] wr)
            case atStart => exact ⟨2, rfl, by omega, rfl, S⟩
            case round =>
              clear S
              obtain ⟨s, hs, hs2, rfl, S⟩ := hrel
              by_cases hs5 : s ≤ 5
              · have HI := Lib.hid (And.intro hs (And.intro hs2 hs5))
                have q7 := S.at (b := bk) (o := .cells k.toArray 25 (0, 0)) (by simp)
                have hkl := HK.out.1
                have CA := S.go C s k HK.out
                have hff : fol U.s s = false := by rcases UL.out with h | h <;> simp [fol, h]
                rw [go_last_no HNK.out UK.out HT.out.1 HT.out.2 (by omega) (by omega) hff] at CA
                clear hff
                go_wp2_with (refine wpList_loadrow_g (by rfl) 25 _ (by rfl) bk (by rfl) k.toArray 25 _ q7 Try.underlying25 rfl (by rw [List.size_toArray, hkl]; exact size25) ?_)
                clear q7 hkl
                refine CA.mono ?_
                clear CA S
                rintro e w12 ⟨rfl, S⟩
                go_wp2_with fail
                go_roundg (gk - 1)
                case measure => have := HI.out; omega
                case rel => exact ⟨s + 1, by have := HI.out; omega, by have := HI.out; omega, by have := HI.out; go_num, S⟩
              · obtain rfl : s = 6 := by omega
                clear hs hs2 hs5
                have rk : wr.rangeAt bk 8 (k.drop 8) := range_sub (S.at (b := bk) (o := .cells k.toArray 25 (0, 0)) (by simp)) 8 (a := k.take 8) (z := []) (by simp) (by rw [List.length_take, HK.out.1]; rfl)
                have hd : Bs 8 (k.drop 8) := Bs.drop (n := 8) HK.out
                have HDD := Lib.hid hd
                have hdl := hd.1
                have HJ9 := Lib.hid (show Bs 16 (R9 ++ k.drop 8) from Bs.append r9_ok hd)
                have hjl := HJ9.out.1
                have hjo := all_oneCell_toArray HJ9.out.one
                have T := S.box Z25 (R9 ++ k.drop 8).toArray 25
                clear hd
                have q8 := T.at (b := wr.heap.size) (o := .cells (R9 ++ k.drop 8).toArray 25 (0, 0)) (by simp)
                go_wp2_with (first
                  | (refine wpList_build4 rfl 23 _ _ _ _ (by rfl) (.int .u8 9) (.int .u8 9) (.int .u8 9) (.int .u8 9) (.agg R9.toArray) (by rfl) (by rfl) (by rfl) (by rfl) build_r9 ?_)
                  | (refine wpList_loadmid_g (by rfl) 23 _ (by rfl) bk 8 (by rfl) (k.drop 8) _ rk Try.underlying23 rfl (by rw [hdl]; exact size23) ?_)
                  | (refine wpList_build2 rfl 25 _ _ (by rfl) (.agg R9.toArray) (.agg (k.drop 8).toArray) (.agg (R9 ++ k.drop 8).toArray) (by rfl) (by rfl) (build_j9 HDD.out) ?_)
                  | (refine wpList_allocz rfl 25 (by rfl) Z25 16 zero25 ?_)
                  | (refine wpList_storerow rfl 25 _ _ (by rfl) wr.heap.size (by rfl) Z25 (R9 ++ k.drop 8).toArray (by rfl) (heap_last wr _) (by rw [List.size_toArray, hjl]; exact size25) (by rw [z25s, List.size_toArray, hjl]) hjo ?_)
                  | (refine wpList_loadrow_g (by rfl) 25 _ (by rfl) wr.heap.size (by rfl) (R9 ++ k.drop 8).toArray 25 _ q8 Try.underlying25 rfl (by rw [List.size_toArray, hjl]; exact size25) ?_)
                  | fail)
                clear rk hdl q8 hjo S
                have S := T
                clear T
                generalize (wr.alloc (.cells Z25 25)).setRow wr.heap.size (R9 ++ k.drop 8).toArray = u13 at *
                generalize wr.heap.size = bo at *
                obtain ⟨r, th, er, hrl, hro, hth⟩ : ∃ (r : Array Value) (th : Bool), tripV (St.find ⟨C, l ++ [U]⟩ (R9 ++ k.drop 8)) = .tuple #[.agg r, .bool th] ∧ r.size = 23 ∧ r.all (·.oneCell') = true ∧ (th = false → St.find ⟨C, l ++ [U]⟩ (R9 ++ k.drop 8) = none) := by
                  cases hf : St.find ⟨C, l ++ [U]⟩ (R9 ++ k.drop 8) with
                  | none => exact ⟨Z40, false, rfl, z40s, z40o, fun _ => rfl⟩
                  | some t =>
                    have hto := S.ok.ok t (find_some hf).1
                    exact ⟨t.cells.toArray, true, rfl, by rw [List.size_toArray, hto.length], all_oneCell_toArray hto.one, fun e => (by cases e)⟩
                have HTH := Lib.hid hth
                have CA := S.get (R9 ++ k.drop 8) HJ9.out
                rw [er] at CA
                refine CA.mono ?_
                clear CA S er hth
                rintro e w14 ⟨rfl, S, _⟩
                have T := S.box Z40 r 40
                go_wp2_with (first
                  | (refine wpList_allocz rfl 40 (by rfl) Z40 23 zero40 ?_)
                  | (refine wpList_storerow rfl 40 _ _ (by rfl) w14.heap.size (by rfl) Z40 r (by rfl) (heap_last w14 _) (by rw [hrl]; exact size40) (by rw [z40s, hrl]) hro ?_)
                  | fail)
                clear S hrl hro
                have S := T.sub (cs := [(bo, .cells (R9 ++ k.drop 8).toArray 25 (0, 0))]) (by simp)
                clear T
                generalize (w14.alloc (.cells Z40 40)).setRow w14.heap.size r = u14 at *
                generalize w14.heap.size = br at *
                have LL := S.listed hlu
                have elen : (St.mk C (l ++ [U])).l.length = l.length + 1 := by simp
                unfold Held at LL
                rw [elen] at LL
                refine LL.mono ?_
                clear LL S elen
                rintro e w15 ⟨v, cs, rfl, S, hH⟩
                obtain ⟨ao, cap, rfl, _⟩ := hH
                replace S := S.sub (cs := [(bo, .cells (R9 ++ k.drop 8).toArray 25 (0, 0))]) (by simp)
                have HLV : Hid (∀ u, Sit bk w tb ⟨C, l ++ [U]⟩ [(bo, .cells (R9 ++ k.drop 8).toArray 25 (0, 0))] u → Calls Try.prog 11 #[] u fun e w' => e = .returned (.bool true) ∧ Sit bk w tb ⟨C, l ++ [U]⟩ [(bo, .cells (R9 ++ k.drop 8).toArray 25 (0, 0))] w' ∧ Below u.heap.size u w') := Lib.hid (fun u S => S.gives (alive_ok u))
                cases th with
                | true =>
                  go_wp2_with fail
                  refine (HLV.out _ S).mono ?_
                  rintro e w16 ⟨rfl, S16, _⟩
                  go_wp2_with fail
                  go_ret
                  exact gives_of_eq rfl (by rw [HBKK.out]; exact S16.below)
                | false =>
                  have r9 : w15.rangeAt bo 0 R9 := range_sub (S.at (b := bo) (o := .cells (R9 ++ k.drop 8).toArray 25 (0, 0)) (by simp)) 0 (a := []) (z := k.drop 8) (by simp) rfl
                  have r9l := r9_ok.1
                  go_wp2_with (refine wpList_loadmid_g (by rfl) 23 _ (by rfl) bo 0 (by rfl) R9 _ r9 Try.underlying23 rfl (by rw [r9l]; exact size23) ?_)
                  clear r9 r9l
                  by_cases hb : ∃ t ∈ (St.mk C (l ++ [U])).l, t.rider = R9 ∧ t.on
                  · refine (S.gives (busy_ok S.2.2.2.choose_spec.1 R9 r9_ok hlu true ⟨fun _ => hb, fun _ => rfl⟩)).mono ?_
                    clear S hb
                    rintro e w16 ⟨rfl, S, _⟩
                    go_wp2_with fail
                    refine (HLV.out _ S).mono ?_
                    rintro e w17 ⟨rfl, S17, _⟩
                    go_wp2_with fail
                    go_ret
                    exact gives_of_eq rfl (by rw [HBKK.out]; exact S17.below)
                  · refine (S.gives (busy_ok S.2.2.2.choose_spec.1 R9 r9_ok hlu false ⟨fun e => (by cases e), fun e => (hb e).elim⟩)).mono ?_
                    have HB := Lib.hid hb
                    clear S hb
                    rintro e w16 ⟨rfl, S, _⟩
                    have q9 := S.at (b := bo) (o := .cells (R9 ++ k.drop 8).toArray 25 (0, 0)) (by simp)
                    have CA := S.assign C (R9 ++ k.drop 8) HJ9.out hlu
                    rw [assign_other HND.out UN.out (by rw [List.drop_left' r9_ok.1]) HT.out.1 HT.out.2 (HTH.out trivial) (by rw [List.take_left' r9_ok.1]; exact HB.out)] at CA
                    go_wp2_with (refine wpList_loadrow_g (by rfl) 25 _ (by rfl) bo (by rfl) (R9 ++ k.drop 8).toArray 25 _ q9 Try.underlying25 rfl (by rw [List.size_toArray, hjl]; exact size25) ?_)
                    clear q9
                    refine CA.mono ?_
                    clear CA S
                    rintro e w17 ⟨rfl, S⟩
                    go_wp2_with fail
                    refine (S.gives (alive_ok w17)).mono ?_
                    rintro e w18 ⟨rfl, S18, _⟩
                    go_wp2_with fail
                    go_ret
                    exact gives_of_eq rfl (by rw [HBKK.out]; exact S18.below)
    · have d1 : (rn == 0) = false := by simpa using hz
      have G := S.gives (alive_ok w5)
      clear hz AD
      go_wp2_with fail
      refine G.mono ?_
      rintro e w6 ⟨rfl, S6, _⟩
      go_wp2_with fail
      go_ret
      exact gives_of_eq rfl (by rw [HBKK.out]; exact S6.below)
end Go.Proofs.Ytnooghehmgbemaa
