/- Trip: TripKeeps, walked. -/
import Derived.Test.YtnooghehmgbemaaB26
import Derived.Deep.CutRange
namespace Go.Proofs.Ytnooghehmgbemaa
open Go.RowKit
set_option linter.unusedVariables false
set_option linter.unusedSimpArgs false

def Z28 : Array Value := #[.int .i64 0, .int .i64 0, .int .u8 0, .int .u8 0, .int .u8 0, .int .u8 0, .int .u8 0, .int .u8 0, .int .u8 0, .int .u8 0, .int .u8 0, .int .u8 0, .int .u8 0, .int .u8 0, .int .u8 0, .int .u8 0, .int .u8 0, .int .u8 0, .int .u8 0]
theorem zero28 : (Try.prog.info? 28).map (fun i => (i.zero, i.size)) = some (some (.agg Z28), 19) := by kernel_rfl
theorem size28 : (Try.prog.info? 28).map (·.size) = some 19 := by kernel_rfl
theorem z28s : Z28.size = 19 := rfl
/-- slice v holds the trips l, its row among the blocks bs -/
def Held (bs : List (Nat × Obj)) (v : Value) (l : List Tr) : Prop :=
  ∃ ao cap, v = .slice ao l.length cap ∧ (l ≠ [] → ∃ g cur, ao = some ⟨g, 0, none⟩ ∧ (g, Obj.cells cur 40 (0, 0)) ∈ bs ∧ cur.toList.take (l.length * 23) = (l.map Tr.cells).flatMap id)
theorem Held.nil (bs : List (Nat × Obj)) : Held bs (.slice none 0 0) [] := ⟨none, 0, rfl, fun h => (h rfl).elim⟩
theorem Held.mono {bs cs : List (Nat × Obj)} {v : Value} {l : List Tr} (h : Held bs v l) (hs : ∀ p ∈ bs, p ∈ cs) : Held cs v l := by
  obtain ⟨ao, cap, e, h⟩ := h
  exact ⟨ao, cap, e, fun hn => by obtain ⟨g, cur, e1, h1, h2⟩ := h hn; exact ⟨g, cur, e1, hs _ h1, h2⟩⟩
theorem Held.row {B tb : Nat} {w0 u : World} {q : St} {bs : List (Nat × Obj)} {v : Value} {l : List Tr} (h : Held bs v l) (s : Sit B w0 tb q bs u) : RowT u v l := by
  obtain ⟨ao, cap, e, h⟩ := h
  exact ⟨ao, cap, e, fun hn => by obtain ⟨g, cur, e1, h1, h2⟩ := h hn; exact ⟨g, cur, e1, s.at h1, h2⟩⟩
theorem Sit.listed {B tb : Nat} {w0 u : World} {q : St} {bs : List (Nat × Obj)} (s : Sit B w0 tb q bs u) (hn : q.l.length ≤ 1048576) : Calls Try.prog 10 #[.pointer (some ⟨tb, 0, none⟩)] u fun e w' => ∃ v cs, e = .returned v ∧ Sit B w0 tb q (cs ++ bs) w' ∧ Held (cs ++ bs) v q.l :=
  (s.list hn).mono fun e w' ⟨v, he, s1, hb, ho⟩ => by
    rcases ho.2 with ⟨rfl, h0⟩ | ⟨g, cap, cur, rfl, hg, h1, _, _, _, h2⟩
    · exact ⟨_, [], he, s1, by rw [List.eq_nil_of_length_eq_zero h0]; exact Held.nil _⟩
    · exact ⟨_, [(g, .cells cur 40 (0, 0))], he, s.add hb hg h1, _, _, rfl, fun _ => ⟨g, cur, rfl, by simp, h2⟩⟩
theorem OpV.ok.length {o : OpV} (h : o.ok) : o.cells.length = 19 := by rw [h.cells]; simp [h.k.1]
theorem OpV.ok.one {o : OpV} (h : o.ok) : ∀ u ∈ o.cells, u.oneCell' = true := fun u hu => by
  rw [h.cells] at hu
  rcases List.mem_cons.1 hu with rfl | hu
  · rfl
  rcases List.mem_cons.1 hu with rfl | hu
  · rfl
  rcases List.mem_append.1 hu with hu | hu
  · exact h.k.one u hu
  · rw [List.mem_singleton.1 hu]; rfl
noncomputable def stepOf (q : St) (o : OpV) : Int × St := if o.kind = 1 then q.assign o.tick o.k else q.go o.tick o.k o.s
theorem stepped_of {q : St} (hq : q.ok) (hs : q.stands) (o : OpV) : Stepped q o.tick (stepOf q o) := by
  unfold stepOf
  split
  · exact stepped_assign hs _ _
  · exact stepped_go hq hs _ _ _
theorem Rd.row {α : Type} {cells : α → List Value} {size : Nat} {w : World} {B n : Nat} {A : Option Addr} {xs : List α} (h : Rd cells size w B A n xs) {i : Nat} {x : α} (hx : xs[i]? = some x) : ∃ b off, A = some ⟨b, off, none⟩ ∧ b < B ∧ w.rangeAt b (off + i * size) (cells x) := by
  have hi : i < n := by rw [← h.len]; exact (List.getElem?_eq_some_iff.1 hx).1
  obtain ⟨b, off, e, hl, hc⟩ := h.at_ (by omega)
  exact ⟨b, off, e, hl, fun j v hv => hc i x hx j v hv⟩
set_option maxRecDepth 20000 in
set_option maxHeartbeats 16000000 in
theorem keeps_core (xs : List OpV) (ok : ∀ o ∈ xs, o.ok) (A : Option Addr) (n c : Nat) (w : World) (hR : Rd OpV.cells 19 w w.heap.size A n xs) : Calls Try.prog 4 #[.slice A n c] w (Gives (.bool true) w) := by
  have HR := Lib.hid hR
  have HOK := Lib.hid ok
  have HLN := Lib.hid hR.len
  clear hR ok
  go_enter Try.func4, Try.ntmps4
  go_wp2_with fail
  refine (sit_new w w w.heap.size (Nat.le_refl _) (Below.refl _ w) [] (by simp)).mono ?_
  rintro e w1 ⟨tb, rfl, S1⟩
  go_wp2_with fail
  obtain ⟨M, hM⟩ : ∃ M, M = min n 300 := ⟨_, rfl⟩
  have M1 : M ≤ n := by omega
  have M2 : M ≤ 300 := by omega
  have M3 : M = n ∨ M = 300 := by omega
  have HM3 := Lib.hid M3
  clear hM M3
  go_loopg [4, 5, 6] M (fun gk v4 v5 v6 wr => ∃ (j : Nat) (q : St) (bs : List (Nat × Obj)), j + gk = M ∧ v4 = .int .i64 q.clock ∧ v6 = .int .i64 j ∧ Sit w.heap.size w tb q bs wr ∧ Held bs v5 q.l ∧ q.stands ∧ q.l.length ≤ j)
  case atStart => exact ⟨0, ⟨0, []⟩, [], by omega, rfl, rfl, S1, Held.nil _, stands_new, Nat.le_refl _⟩
  case round =>
    clear S1
    obtain ⟨j, q, bs, hj, rfl, rfl, S, hH, hs, hl⟩ := hrel
    have HH := Lib.hid hH
    have HS := Lib.hid hs
    clear hH hs
    by_cases hlt : j < M
    · have hjn : j < n := by omega
      have hj3 : j < 300 := by omega
      obtain ⟨o, ho⟩ : ∃ o, xs[j]? = some o := ⟨_, List.getElem?_eq_getElem (by rw [HLN.out]; exact hjn)⟩
      have HO := Lib.hid (HOK.out o (List.mem_of_getElem? ho))
      obtain ⟨ab, ao, rfl, hab, ra⟩ := (HR.out.below S.below).row ho
      have HJ := Lib.hid (And.intro hj (And.intro hlt hl))
      have T := S.box Z28 o.cells.toArray 28
      have hlo := HO.out.length
      have hoo := all_oneCell_toArray HO.out.one
      clear ho hab
      go_wp2_with (first
        | (refine wpList_loadmid_g (by rfl) 28 _ (by rfl) ab (ao + j * 19) (by rfl) o.cells _ ra Try.underlying28 rfl (by rw [hlo]; exact size28) ?_)
        | (refine wpList_allocz rfl 28 (by rfl) Z28 19 zero28 ?_)
        | (refine wpList_storerow rfl 28 _ _ (by rfl) wr.heap.size (by rfl) Z28 o.cells.toArray (by rfl) (heap_last wr _) (by rw [List.size_toArray, hlo]; exact size28) (by rw [z28s, List.size_toArray, hlo]) hoo ?_)
        | (refine wpList_pause 3 _ (by rfl) ⟨wr.heap.size, 0, none⟩ (by rfl) ?_)
        | fail)
      refine Pause.mk ?_
      clear ra S hlo hoo
      have S := T
      clear T
      generalize (wr.alloc (.cells Z28 28)).setRow wr.heap.size o.cells.toArray = u1 at *
      generalize wr.heap.size = bo at *
      have hq := S.ok
      have ST := Lib.hid (stepped_of hq HS.out o)
      have hr := (stepped_of hq HS.out o).len
      have hl' : q.l.length ≤ 1048576 := by omega
      obtain ⟨k0, k1, k18, rk, rd⟩ := op_facts HO.out (S.at (b := bo) (o := .cells o.cells.toArray 28 (0, 0)) (by simp))
      have hk := HO.out.k
      have hkl := hk.1
      go_upto_if 30 with fail
      go_cut [8] from 14 to 90 (fun s8 wx => s8 = .int .i64 (stepOf q o).1 ∧ Sit w.heap.size w tb (stepOf q o).2 ((bo, .cells o.cells.toArray 28 (0, 0)) :: bs) wx)
      case first =>
        by_cases hk1 : o.kind = 1
        · have hk1b : (o.kind == 1) = true := by rw [hk1]; rfl
          have CA := S.assign o.tick o.k hk hl'
          have HK1 := Lib.hid hk1
          clear hk1
          go_wp2_with (refine wpList_loadmid_g (by rfl) 25 _ (by rfl) bo 2 (by rfl) o.k _ rk Try.underlying25 rfl (by rw [hkl]; exact size25) ?_)
          clear k0 k1 k18 rk rd hkl S hk1b
          refine CA.mono ?_
          clear CA
          rintro e w3 ⟨rfl, S⟩
          go_wp2_with fail
          go_meet
          unfold stepOf
          rw [if_pos HK1.out]
          exact ⟨rfl, S⟩
        · have hk1b : (o.kind == 1) = false := by simpa using hk1
          have CA := S.go o.tick o.s o.k hk
          have HK1 := Lib.hid hk1
          clear hk1
          go_wp2_with (refine wpList_loadmid_g (by rfl) 25 _ (by rfl) bo 2 (by rfl) o.k _ rk Try.underlying25 rfl (by rw [hkl]; exact size25) ?_)
          clear k0 k1 k18 rk rd hkl S hk1b
          refine CA.mono ?_
          clear CA
          rintro e w3 ⟨rfl, S⟩
          go_wp2_with fail
          go_meet
          unfold stepOf
          rw [if_neg HK1.out]
          exact ⟨rfl, S⟩
      case rest =>
        obtain ⟨rfl, S2⟩ := hcut
        clear S k0 k1 k18 rk rd hkl
        generalize stepOf q o = r at *
        obtain ⟨rn, q'⟩ := r
        simp only at hr S2
        have hl2 : q'.l.length ≤ 1048576 := by omega
        have hq' := S2.ok
        go_wp2_with fail
        refine (S2.listed hl2).mono ?_
        clear S2
        rintro e w4 ⟨vn, cs, rfl, S, hN⟩
        have HN := Lib.hid hN
        have HWAS := Lib.hid (HH.out.mono (cs := cs ++ (bo, Obj.cells o.cells.toArray 28 (0, 0)) :: bs) (by intro p hp; simp [hp]))
        clear hN
        have HQ := Lib.hid hq
        have HQ' := Lib.hid hq'
        clear hq hq'
        have k1 := (op_facts HO.out (S.at (b := bo) (o := .cells o.cells.toArray 28 (0, 0)) (by simp))).2.1
        go_upto_if 48 with fail
        go_cut [4] from 14 to 90 (fun s4 wx => s4 = .int .i64 q'.clock ∧ Sit w.heap.size w tb q' (cs ++ (bo, Obj.cells o.cells.toArray 28 (0, 0)) :: bs) wx)
        case first =>
          by_cases hz : rn = 0
          · subst hz
            obtain ⟨f1, f2, m, f3⟩ := ST.out.fine rfl
            have G := S.gives (grown_ok q.l q'.l m f3 HQ.out.ok HQ'.out.ok (by omega) u5 vn w4 (HWAS.out.row S) (HN.out.row S))
            have d1 : decide (o.tick < q.clock) = false := decide_eq_false (by omega)
            have F2 := Lib.hid f2
            clear f1 f2 f3 S
            go_wp2_with fail
            refine G.mono ?_
            clear G k1 d1
            rintro e w5 ⟨rfl, S, _⟩
            have k1 := (op_facts HO.out (S.at (b := bo) (o := .cells o.cells.toArray 28 (0, 0)) (by simp))).2.1
            go_wp2_with fail
            go_meet
            exact ⟨by rw [← F2.out], S⟩
          · have f := ST.out.not hz
            simp only at f
            subst f
            have G := S.gives (same_ok q'.l HQ'.out.ok hl2 u5 vn w4 (HWAS.out.row S) (HN.out.row S))
            have d1 : (rn == 0) = false := by simpa using hz
            clear S hz
            go_wp2_with fail
            refine G.mono ?_
            clear G k1 d1
            rintro e w5 ⟨rfl, S, _⟩
            go_wp2_with fail
            go_meet
            exact ⟨rfl, S⟩
        case rest =>
          obtain ⟨rfl, S5⟩ := hcut
          clear S k1
          have G := S5.gives (alone_ok q'.l HQ'.out.ok hl2 HQ'.out.dk HQ'.out.dr HQ'.out.dd vn wc (HN.out.row S5))
          clear S5
          go_wp2_with fail
          refine G.mono ?_
          clear G
          rintro e w6 ⟨rfl, S6, _⟩
          obtain ⟨_, _, _, _, rd⟩ := op_facts HO.out (S6.at (b := bo) (o := .cells o.cells.toArray 28 (0, 0)) (by simp))
          have hd : Bs 8 (o.k.drop 8) := Bs.drop (n := 8) hk
          have hdl := hd.1
          have G := S6.gives (told_ok S6.2.2.2.choose_spec.1 (o.k.drop 8) hd hl2 vn (HN.out.row S6))
          clear S6 hd
          go_wp2_with (refine wpList_loadmid_g (by rfl) 23 _ (by rfl) bo 10 (by rfl) (o.k.drop 8) _ rd Try.underlying23 rfl (by rw [hdl]; exact size23) ?_)
          clear rd hdl
          refine G.mono ?_
          clear G
          rintro e w7 ⟨rfl, S7, _⟩
          have HNN := Lib.hid (show ∃ ao cap, vn = .slice ao q'.l.length cap from by obtain ⟨ao, cap, e, _⟩ := HN.out; exact ⟨ao, cap, e⟩)
          obtain ⟨an, cn, rfl⟩ := HNN.out
          go_wp2_with fail
          go_loopg [10] q'.l.length (fun gk v10 wr => ∃ i : Nat, i + gk = q'.l.length ∧ v10 = .int .i64 i ∧ Sit w.heap.size w tb q' (cs ++ (bo, Obj.cells o.cells.toArray 28 (0, 0)) :: bs) wr)
          case atStart => exact ⟨0, by omega, rfl, S7⟩
          case round =>
            clear S7
            obtain ⟨i, hi, rfl, S⟩ := hrel
            by_cases hil : i < q'.l.length
            · obtain ⟨t, ht⟩ : ∃ t, q'.l[i]? = some t := ⟨_, List.getElem?_eq_getElem hil⟩
              have htm := List.mem_of_getElem? ht
              have hto := HQ'.out.ok t htm
              obtain ⟨g, cp, e1, T1⟩ := (HN.out.row S).get HQ'.out.ok ht
              injection e1 with e1 _ e2
              subst e1
              have ra := T1.all
              have HTO := Lib.hid hto
              have G := S.gives (right_ok t hto q'.clock (ST.out.stands t htm) wr)
              have HI := Lib.hid (And.intro hi hil)
              have hlt' := hto.length
              clear ht htm hto T1 e2 S
              go_wp2_with (refine wpList_loadmid_g (by rfl) 40 _ (by rfl) g (i * 23) (by rfl) t.cells _ ra Try.underlying40 rfl (by rw [hlt']; exact size40) ?_)
              clear ra hlt'
              refine G.mono ?_
              clear G
              rintro e w8 ⟨rfl, S, _⟩
              go_wp2_with fail
              go_roundg (gk - 1)
              case measure => have := HI.out; omega
              case rel => exact ⟨i + 1, by have := HI.out; omega, by have := HI.out; go_num, S⟩
            · obtain rfl : i = q'.l.length := by omega
              go_wp2_with fail
              go_roundg (M - (j + 1))
              case measure => have := HJ.out; omega
              case rel => exact ⟨j + 1, q', _, by have := HJ.out; omega, rfl, by have := HJ.out; go_num, S, HN.out, ST.out.stands, by have := HJ.out; omega⟩
    · obtain rfl : j = M := by omega
      have G := S.gives (alive_ok wr)
      rcases HM3.out with e | e
      · subst e
        go_wp2_with fail
        refine G.mono ?_
        rintro e w9 ⟨rfl, S9, _⟩
        go_wp2_with fail
        go_ret
        exact gives_of_eq rfl S9.below
      · subst e
        by_cases h3 : n = 300
        · subst h3
          go_wp2_with fail
          refine G.mono ?_
          rintro e w9 ⟨rfl, S9, _⟩
          go_wp2_with fail
          go_ret
          exact gives_of_eq rfl S9.below
        · have h4 : 300 < n := by omega
          clear h3 M1
          go_wp2_with fail
          refine G.mono ?_
          rintro e w9 ⟨rfl, S9, _⟩
          go_wp2_with fail
          go_ret
          exact gives_of_eq rfl S9.below
end Go.Proofs.Ytnooghehmgbemaa
