/- Trip: grown. -/
import Derived.Test.YtnooghehmgbemaaB25
namespace Go.Proofs.Ytnooghehmgbemaa
open Go.RowKit
set_option linter.unusedVariables false
set_option linter.unusedSimpArgs false

theorem turns_at {n N m : Nat} (hm : m ≤ n) (hN : N = n + (if m = n then 1 else 0)) : ∃ T : Nat → Int, T 0 = (N : Int) - n ∧ (∀ j, j ≠ m → T (j + 1) = T j) ∧ (m < n → T m = 0 ∧ T (m + 1) = 1) ∧ T n = 1 ∧ ∀ j, 0 ≤ T j ∧ T j ≤ 1 := by
  refine ⟨fun j => if m = n then 1 else if m < j then 1 else 0, ?_, ?_, ?_, ?_, ?_⟩
  · split at hN <;> simp <;> omega
  · intro j hj
    dsimp only
    by_cases e : m = n
    · rw [if_pos e, if_pos e]
    rw [if_neg e, if_neg e]
    by_cases h : m < j
    · rw [if_pos h, if_pos (by omega)]
    · rw [if_neg h, if_neg (by omega)]
  · intro h
    dsimp only
    rw [if_neg (by omega), if_neg (by omega), if_neg (by omega), if_pos (by omega)]
    exact ⟨rfl, rfl⟩
  · dsimp only
    by_cases e : m = n
    · rw [if_pos e]
    · rw [if_neg e, if_pos (by omega)]
  · intro j
    dsimp only
    split
    · omega
    · split <;> omega
/-- a goal, shut: the walk stops here -/
structure Pause (p : Prop) : Prop where
  out : p
theorem wpList_pause {P : Program} {ops : Array Oper} {rest : List Oper} {op : Oper} {a : Act} {w : World} {Q : Exit → Act → World → Prop} (ty : TypeId) (x : Operand) (ho : op.op = .load ty x) (p : Addr) (hx : a.eval x = .pointer (some p)) (h : Pause (wpList P ops Q (op :: rest) a w)) : wpList P ops Q (op :: rest) a w := h.out
theorem six_get {ts : List Int} (h : ts.length = 6) {j : Nat} (hj : j < 6) : ∃ n, ts[j]? = some n := ⟨_, List.getElem?_eq_getElem (by omega)⟩
set_option maxRecDepth 20000 in
set_option maxHeartbeats 8000000 in
theorem grown_ok (was now : List Tr) (m : Nat) (hg : Grew was now m) (ok1 : ∀ t ∈ was, t.ok) (ok2 : ∀ t ∈ now, t.ok) (hn : was.length ≤ 1048576) (v v' : Value) (w : World) (h : RowT w v was) (h' : RowT w v' now) : Calls Try.prog 13 #[v, v'] w (Gives (.bool true) w) := by
  have H1 := Lib.hid h
  have H2 := Lib.hid h'
  obtain ⟨ao, cap, ev, _⟩ := h
  obtain ⟨ao', cap', ev', _⟩ := h'
  subst ev ev'
  obtain ⟨T, T0, TS, TM, TN, TB⟩ := turns_at hg.le hg.len
  have HG := Lib.hid hg
  have HK1 := Lib.hid ok1
  have HK2 := Lib.hid ok2
  have HTS := Lib.hid TS
  have HTM := Lib.hid TM
  have HTN := Lib.hid TN
  have HTB := Lib.hid TB
  have HT0 := Lib.hid T0
  have hN : was.length ≤ now.length ∧ now.length ≤ was.length + 1 := by have := hg.len; split at this <;> omega
  obtain ⟨N, eN⟩ : ∃ N, now.length = N := ⟨_, rfl⟩
  obtain ⟨n, en⟩ : ∃ n, was.length = n := ⟨_, rfl⟩
  have HNE := Lib.hid eN
  have HnE := Lib.hid en
  rw [eN, en] at hN
  rw [en] at hn
  have d1 : decide ((N : Int) < (n : Int)) = false := decide_eq_false (by omega)
  have d2 : decide (N < n) = false := decide_eq_false (by omega)
  have d3 : decide ((n : Int) + 1 < (N : Int)) = false := decide_eq_false (by omega)
  have d4 : decide (n + 1 < N) = false := decide_eq_false (by omega)
  have hN1 := hN.1
  have hN2 := hN.2
  clear ok1 ok2 TS TM TN TB T0 hg hN
  rw [eN, en]
  clear eN en
  go_enter Try.func13, Try.ntmps13
  go_wp2_with fail
  clear d1 d2 d3 d4
  go_loopg [5, 6] n (fun gk v5 v6 wr => ∃ j : Nat, j + gk = n ∧ v5 = .int .i64 (T j) ∧ v6 = .int .i64 j ∧ Bk w [] wr)
  case atStart => exact ⟨0, by omega, by have := HT0.out; rw [HNE.out, HnE.out] at this; rw [this], rfl, ⟨Below.refl _ w, by simp⟩⟩
  case round =>
    obtain ⟨j, hj, rfl, rfl, S⟩ := hrel
    by_cases hlt : j < n
    · have hltw : j < was.length := by rw [HnE.out]; exact hlt
      have hltn : j < now.length := by rw [HNE.out]; omega
      obtain ⟨a, ha⟩ : ∃ t, was[j]? = some t := ⟨_, List.getElem?_eq_getElem hltw⟩
      obtain ⟨b, hb⟩ : ∃ t, now[j]? = some t := ⟨_, List.getElem?_eq_getElem hltn⟩
      clear hltw hltn
      have HAO := Lib.hid (HK1.out a (List.mem_of_getElem? ha))
      have HBO := Lib.hid (HK2.out b (List.mem_of_getElem? hb))
      obtain ⟨g, c, e1, A1⟩ := H1.out.get HK1.out ha
      obtain ⟨g', c', e2, B1⟩ := H2.out.get HK2.out hb
      rw [HnE.out] at e1
      rw [HNE.out] at e2
      cases e1
      cases e2
      have HA := Lib.hid ha
      have HB := Lib.hid hb
      have HJ := Lib.hid (And.intro hj hlt)
      have HA1 := Lib.hid A1
      have HB1 := Lib.hid B1
      have ra := (A1.below S.1 (Nat.le_refl _)).all
      have TA := S.box Z40 a.cells.toArray 40
      have rb := (B1.below TA.1 (Nat.le_refl _)).all
      clear ha hb A1 B1
      have hla := HAO.out.length
      have hlb := HBO.out.length
      have hoa := all_oneCell_toArray HAO.out.one
      have hob := all_oneCell_toArray HBO.out.one
      by_cases hjm : j = m
      · subst hjm
        obtain ⟨b0, hb0, hk, hon, hsl, hts⟩ := HG.out.turned a HA.out
        rw [HB.out] at hb0
        injection hb0 with hb0
        subst hb0
        have HK := Lib.hid hk
        have HTI := Lib.hid hts
        have ea := endB_on.2 hon
        have ds : decide (b.s ≤ a.s) = false := decide_eq_false (by omega)
        have hne : a ≠ b := fun e => by rw [e] at hsl; omega
        have HNE2 := Lib.hid hne
        have DS := Lib.hid ds
        clear hk hts hon hsl hne ds
        have hT := HTM.out (by rw [HnE.out]; exact hlt)
        rw [hT.1]
        go_wp2_with (first
          | (refine wpList_loadmid_g (by rfl) 40 _ (by rfl) g (j * 23) (by rfl) a.cells _ ra Try.underlying40 rfl (by rw [hla]; exact size40) ?_)
          | (refine wpList_allocz rfl 40 (by rfl) Z40 23 zero40 ?_)
          | (refine wpList_storerow rfl 40 _ _ (by rfl) wr.heap.size (by rfl) Z40 a.cells.toArray (by rfl) (heap_last wr _) (by rw [List.size_toArray, hla]; exact size40) (by rw [z40s, List.size_toArray, hla]) hoa ?_)
          | (refine wpList_pause 40 _ (by rfl) ⟨g', j * 23, none⟩ (by rfl) ?_)
          | fail)
        refine Pause.mk ?_
        clear ra
        generalize (wr.alloc (.cells Z40 40)).setRow wr.heap.size a.cells.toArray = u1 at *
        generalize wr.heap.size = ba at *
        have TAB := TA.box Z40 b.cells.toArray 40
        clear S
        go_wp2_with (first
          | (refine wpList_loadmid_g (by rfl) 40 _ (by rfl) g' (j * 23) (by rfl) b.cells _ rb Try.underlying40 rfl (by rw [hlb]; exact size40) ?_)
          | (refine wpList_allocz rfl 40 (by rfl) Z40 23 zero40 ?_)
          | (refine wpList_storerow rfl 40 _ _ (by rfl) u1.heap.size (by rfl) Z40 b.cells.toArray (by rfl) (heap_last u1 _) (by rw [List.size_toArray, hlb]; exact size40) (by rw [z40s, List.size_toArray, hlb]) hob ?_)
          | (refine wpList_pause 40 _ (by rfl) ⟨ba, 0, none⟩ (by rfl) ?_)
          | fail)
        refine Pause.mk ?_
        clear rb TA
        generalize (u1.alloc (.cells Z40 40)).setRow u1.heap.size b.cells.toArray = u2 at *
        generalize u1.heap.size = bb at *
        have qa := TAB.at (b := ba) (o := .cells a.cells.toArray 40 (0, 0)) (by simp)
        have qb := TAB.at (b := bb) (o := .cells b.cells.toArray 40 (0, 0)) (by simp)
        have TIA := box_in HAO.out qa
        have TIB := box_in HBO.out qb
        have ka := TIA.key
        have kb := TIB.key
        rw [Nat.zero_mul] at ka kb
        have hka := HAO.out.k.1
        have hkb := HBO.out.k.1
        clear TIA TIB
        go_wp2_with (first
          | (refine wpList_loadrow_g (by rfl) 40 _ (by rfl) ba (by rfl) a.cells.toArray 40 _ qa Try.underlying40 rfl (by rw [List.size_toArray, hla]; exact size40) ?_)
          | (refine wpList_loadrow_g (by rfl) 40 _ (by rfl) bb (by rfl) b.cells.toArray 40 _ qb Try.underlying40 rfl (by rw [List.size_toArray, hlb]; exact size40) ?_)
          | (refine wpList_eq_g (by rfl) false 40 _ _ _ (by rfl) a.cells.toArray b.cells.toArray (.bool false) (by rfl) (by rfl) guard40 (eq_tt HAO.out HBO.out false ⟨fun e => (by cases e), fun e => (HNE2.out e).elim⟩ _) ?_)
          | (refine wpList_loadmid_g (by rfl) 25 _ (by rfl) ba 0 (by rfl) a.k _ ka Try.underlying25 rfl (by rw [hka]; exact size25) ?_)
          | (refine wpList_loadmid_g (by rfl) 25 _ (by rfl) bb 0 (by rfl) b.k _ kb Try.underlying25 rfl (by rw [hkb]; exact size25) ?_)
          | (refine wpList_eq_g (by rfl) true 25 _ _ _ (by rfl) a.k.toArray b.k.toArray (.bool false) (by rfl) (by rfl) guard25 (ne_jj HAO.out.k HBO.out.k false ⟨fun _ => HK.out, fun _ => rfl⟩ _) ?_)
          | fail)
        clear qa qb ka kb
        refine (TAB.gives (endB_t a HAO.out false ea _)).mono ?_
        rintro e w4 ⟨rfl, S4⟩
        clear TAB ea hla hlb hoa hob hka hkb
        have ca := cell_s HAO.out (S4.at (b := ba) (o := .cells a.cells.toArray 40 (0, 0)) (by simp))
        have cb := cell_s HBO.out (S4.at (b := bb) (o := .cells b.cells.toArray 40 (0, 0)) (by simp))
        have ds := DS.out
        go_wp2_with fail
        clear ca cb ds
        go_loopg [9] 6 (fun gk v9 wr => ∃ s : Nat, s + gk = 6 ∧ v9 = .int .i64 s ∧ Bk w [(bb, .cells b.cells.toArray 40 (0, 0)), (ba, .cells a.cells.toArray 40 (0, 0))] wr)
        case atStart => exact ⟨0, by omega, rfl, S4⟩
        case round =>
          clear S4
          obtain ⟨s, hs, rfl, S⟩ := hrel
          by_cases hs6 : s < 6
          · obtain ⟨x, hx⟩ := six_get HAO.out.n hs6
            obtain ⟨y, hy⟩ := six_get HBO.out.n hs6
            have hxy := HTI.out s hs6
            rw [hx, hy] at hxy
            have HS := Lib.hid (And.intro hs hs6)
            go_wp2_with fail
            have CA := cell_t HAO.out (S.at (b := ba) (o := .cells a.cells.toArray 40 (0, 0)) (by simp)) hx
            have CB := cell_t HBO.out (S.at (b := bb) (o := .cells b.cells.toArray 40 (0, 0)) (by simp)) hy
            have CS := cell_s HBO.out (S.at (b := bb) (o := .cells b.cells.toArray 40 (0, 0)) (by simp))
            have LA := (Array.getElem?_eq_some_iff.1 (S.at (b := ba) (o := .cells a.cells.toArray 40 (0, 0)) (by simp))).1
            have LB := (Array.getElem?_eq_some_iff.1 (S.at (b := bb) (o := .cells b.cells.toArray 40 (0, 0)) (by simp))).1
            clear hx hy
            by_cases exy : y = x
            · subst exy
              clear hxy
              refine wp_region_wq wr.heap.size wr (Below.refl _ wr) (by kernel_rfl) (by kernel_rfl) ?_
              refine WQ.yields (v := .int .i64 s) (Or.inl ⟨by rfl, fun z hz => ?_⟩) ?_
              · go_simp
              try simp only [Act.put, List.setIfInBounds_toArray, List.set_cons_zero, List.set_cons_succ]
              refine WQ.yields (v := .pointer (some ⟨ba, 17, none⟩)) (Or.inl ⟨by rfl, fun z hz => ?_⟩) ?_
              · go_simp
              try simp only [Act.put, List.setIfInBounds_toArray, List.set_cons_zero, List.set_cons_succ]
              refine WQ.yields (v := .pointer (some ⟨ba, 17 + s, none⟩)) (Or.inl ⟨by rfl, fun z hz => ?_⟩) ?_
              · have hs6 := HS.out.2; go_simp
              try simp only [Act.put, List.setIfInBounds_toArray, List.set_cons_zero, List.set_cons_succ]
              refine WQ.yields (v := .int .i64 y) (Or.inl ⟨by rfl, fun z hz => ?_⟩) ?_
              · have c := (hz.cell (p := ⟨ba, 17 + s, none⟩) LA).trans CA; go_simp
              try simp only [Act.put, List.setIfInBounds_toArray, List.set_cons_zero, List.set_cons_succ]
              refine WQ.yields (v := .int .i64 s) (Or.inl ⟨by rfl, fun z hz => ?_⟩) ?_
              · go_simp
              try simp only [Act.put, List.setIfInBounds_toArray, List.set_cons_zero, List.set_cons_succ]
              refine WQ.yields (v := .pointer (some ⟨bb, 17, none⟩)) (Or.inl ⟨by rfl, fun z hz => ?_⟩) ?_
              · go_simp
              try simp only [Act.put, List.setIfInBounds_toArray, List.set_cons_zero, List.set_cons_succ]
              refine WQ.yields (v := .pointer (some ⟨bb, 17 + s, none⟩)) (Or.inl ⟨by rfl, fun z hz => ?_⟩) ?_
              · have hs6 := HS.out.2; go_simp
              try simp only [Act.put, List.setIfInBounds_toArray, List.set_cons_zero, List.set_cons_succ]
              refine WQ.yields (v := .int .i64 y) (Or.inl ⟨by rfl, fun z hz => ?_⟩) ?_
              · have c := (hz.cell (p := ⟨bb, 17 + s, none⟩) LB).trans CB; go_simp
              try simp only [Act.put, List.setIfInBounds_toArray, List.set_cons_zero, List.set_cons_succ]
              refine WQ.yields (v := .bool false) (Or.inl ⟨by rfl, fun z hz => ?_⟩) ?_
              · go_simp
              try simp only [Act.put, List.setIfInBounds_toArray, List.set_cons_zero, List.set_cons_succ]
              refine WQ.yields (v := .bool false) (Or.inl ⟨by rfl, fun z hz => ?_⟩) ?_
              · go_simp
              try simp only [Act.put, List.setIfInBounds_toArray, List.set_cons_zero, List.set_cons_succ]
              refine WQ.skip (by rfl) ?_
              try simp only [Act.put, List.setIfInBounds_toArray, List.set_cons_zero, List.set_cons_succ]
              refine WQ.skip (by rfl) ?_
              try simp only [Act.put, List.setIfInBounds_toArray, List.set_cons_zero, List.set_cons_succ]
              refine WQ.skip (by rfl) ?_
              try simp only [Act.put, List.setIfInBounds_toArray, List.set_cons_zero, List.set_cons_succ]
              refine WQ.skip (by rfl) ?_
              try simp only [Act.put, List.setIfInBounds_toArray, List.set_cons_zero, List.set_cons_succ]
              refine WQ.skip (by rfl) ?_
              try simp only [Act.put, List.setIfInBounds_toArray, List.set_cons_zero, List.set_cons_succ]
              refine WQ.skip (by rfl) ?_
              try simp only [Act.put, List.setIfInBounds_toArray, List.set_cons_zero, List.set_cons_succ]
              refine WQ.skip (by rfl) ?_
              try simp only [Act.put, List.setIfInBounds_toArray, List.set_cons_zero, List.set_cons_succ]
              refine WQ.skip (by rfl) ?_
              try simp only [Act.put, List.setIfInBounds_toArray, List.set_cons_zero, List.set_cons_succ]
              refine WQ.skip (by rfl) ?_
              try simp only [Act.put, List.setIfInBounds_toArray, List.set_cons_zero, List.set_cons_succ]
              refine WQ.skip (by rfl) ?_
              try simp only [Act.put, List.setIfInBounds_toArray, List.set_cons_zero, List.set_cons_succ]
              refine WQ.skip (by rfl) ?_
              try simp only [Act.put, List.setIfInBounds_toArray, List.set_cons_zero, List.set_cons_succ]
              refine WQ.skip (by rfl) ?_
              try simp only [Act.put, List.setIfInBounds_toArray, List.set_cons_zero, List.set_cons_succ]
              refine WQ.yields (v := .bool false) (Or.inl ⟨by rfl, fun z hz => ?_⟩) ?_
              · go_simp
              try simp only [Act.put, List.setIfInBounds_toArray, List.set_cons_zero, List.set_cons_succ]
              refine WQ.nil ?_
              intro z hz
              have S5 := S.up hz
              clear S CA CB CS LA LB hz
              go_wp2_with fail
              go_roundg (gk - 1)
              case measure => have := HS.out; omega
              case rel => exact ⟨s + 1, by have := HS.out; omega, by have := HS.out; go_num, S5⟩
            · obtain ⟨e1, e2⟩ : x = -1 ∧ (s : Int) = b.s := by
                rcases hxy with h | ⟨h, h'⟩
                · injection h with h; exact (exy h).elim
                · injection h with h; exact ⟨h, h'⟩
              subst e1
              rw [← e2] at CS
              have q1 : ((-1 : Int) == y) = false := beq_eq_false_iff_ne.2 (fun e => exy e.symm)
              have q2 : decide ((-1 : Int) = y) = false := decide_eq_false (fun e => exy e.symm)
              have q3 : ¬ (-1 : Int) = y := fun e => exy e.symm
              have Q12 := Lib.hid (And.intro q1 (And.intro q2 q3))
              clear hxy exy e2 q1 q2 q3
              refine wp_region_wq wr.heap.size wr (Below.refl _ wr) (by kernel_rfl) (by kernel_rfl) ?_
              refine WQ.yields (v := .int .i64 s) (Or.inl ⟨by rfl, fun z hz => ?_⟩) ?_
              · go_simp
              try simp only [Act.put, List.setIfInBounds_toArray, List.set_cons_zero, List.set_cons_succ]
              refine WQ.yields (v := .pointer (some ⟨ba, 17, none⟩)) (Or.inl ⟨by rfl, fun z hz => ?_⟩) ?_
              · go_simp
              try simp only [Act.put, List.setIfInBounds_toArray, List.set_cons_zero, List.set_cons_succ]
              refine WQ.yields (v := .pointer (some ⟨ba, 17 + s, none⟩)) (Or.inl ⟨by rfl, fun z hz => ?_⟩) ?_
              · have hs6 := HS.out.2; go_simp
              try simp only [Act.put, List.setIfInBounds_toArray, List.set_cons_zero, List.set_cons_succ]
              refine WQ.yields (v := .int .i64 (-1)) (Or.inl ⟨by rfl, fun z hz => ?_⟩) ?_
              · have c := (hz.cell (p := ⟨ba, 17 + s, none⟩) LA).trans CA; go_simp
              try simp only [Act.put, List.setIfInBounds_toArray, List.set_cons_zero, List.set_cons_succ]
              refine WQ.yields (v := .int .i64 s) (Or.inl ⟨by rfl, fun z hz => ?_⟩) ?_
              · go_simp
              try simp only [Act.put, List.setIfInBounds_toArray, List.set_cons_zero, List.set_cons_succ]
              refine WQ.yields (v := .pointer (some ⟨bb, 17, none⟩)) (Or.inl ⟨by rfl, fun z hz => ?_⟩) ?_
              · go_simp
              try simp only [Act.put, List.setIfInBounds_toArray, List.set_cons_zero, List.set_cons_succ]
              refine WQ.yields (v := .pointer (some ⟨bb, 17 + s, none⟩)) (Or.inl ⟨by rfl, fun z hz => ?_⟩) ?_
              · have hs6 := HS.out.2; go_simp
              try simp only [Act.put, List.setIfInBounds_toArray, List.set_cons_zero, List.set_cons_succ]
              refine WQ.yields (v := .int .i64 y) (Or.inl ⟨by rfl, fun z hz => ?_⟩) ?_
              · have c := (hz.cell (p := ⟨bb, 17 + s, none⟩) LB).trans CB; go_simp
              try simp only [Act.put, List.setIfInBounds_toArray, List.set_cons_zero, List.set_cons_succ]
              refine WQ.yields (v := .bool true) (Or.inl ⟨by rfl, fun z hz => ?_⟩) ?_
              · have q1 := Q12.out.1; have q2 := Q12.out.2.1; have q3 := Q12.out.2.2; go_simp
              try simp only [Act.put, List.setIfInBounds_toArray, List.set_cons_zero, List.set_cons_succ]
              refine WQ.yields (v := .bool true) (Or.inl ⟨by rfl, fun z hz => ?_⟩) ?_
              · go_simp
              try simp only [Act.put, List.setIfInBounds_toArray, List.set_cons_zero, List.set_cons_succ]
              refine WQ.yields (v := .int .i64 s) (Or.inl ⟨by rfl, fun z hz => ?_⟩) ?_
              · go_simp
              try simp only [Act.put, List.setIfInBounds_toArray, List.set_cons_zero, List.set_cons_succ]
              refine WQ.yields (v := .pointer (some ⟨ba, 17, none⟩)) (Or.inl ⟨by rfl, fun z hz => ?_⟩) ?_
              · go_simp
              try simp only [Act.put, List.setIfInBounds_toArray, List.set_cons_zero, List.set_cons_succ]
              refine WQ.yields (v := .pointer (some ⟨ba, 17 + s, none⟩)) (Or.inl ⟨by rfl, fun z hz => ?_⟩) ?_
              · have hs6 := HS.out.2; go_simp
              try simp only [Act.put, List.setIfInBounds_toArray, List.set_cons_zero, List.set_cons_succ]
              refine WQ.yields (v := .int .i64 (-1)) (Or.inl ⟨by rfl, fun z hz => ?_⟩) ?_
              · have c := (hz.cell (p := ⟨ba, 17 + s, none⟩) LA).trans CA; go_simp
              try simp only [Act.put, List.setIfInBounds_toArray, List.set_cons_zero, List.set_cons_succ]
              refine WQ.yields (v := .bool false) (Or.inl ⟨by rfl, fun z hz => ?_⟩) ?_
              · have q1 := Q12.out.1; have q2 := Q12.out.2.1; have q3 := Q12.out.2.2; go_simp
              try simp only [Act.put, List.setIfInBounds_toArray, List.set_cons_zero, List.set_cons_succ]
              refine WQ.yields (v := .bool false) (Or.inl ⟨by rfl, fun z hz => ?_⟩) ?_
              · go_simp
              try simp only [Act.put, List.setIfInBounds_toArray, List.set_cons_zero, List.set_cons_succ]
              refine WQ.yields (v := .int .i64 s) (Or.inl ⟨by rfl, fun z hz => ?_⟩) ?_
              · go_simp
              try simp only [Act.put, List.setIfInBounds_toArray, List.set_cons_zero, List.set_cons_succ]
              refine WQ.yields (v := .pointer (some ⟨bb, 16, none⟩)) (Or.inl ⟨by rfl, fun z hz => ?_⟩) ?_
              · go_simp
              try simp only [Act.put, List.setIfInBounds_toArray, List.set_cons_zero, List.set_cons_succ]
              refine WQ.yields (v := .int .u8 s) (Or.inl ⟨by rfl, fun z hz => ?_⟩) ?_
              · have c := (hz.cell (p := ⟨bb, 16, none⟩) LB).trans CS; go_simp
              try simp only [Act.put, List.setIfInBounds_toArray, List.set_cons_zero, List.set_cons_succ]
              refine WQ.yields (v := .int .i64 s) (Or.inl ⟨by rfl, fun z hz => ?_⟩) ?_
              · have hw : IntKind.i64.wrap (s : Int) = s := IntWalk.i64_in _ (by have := HS.out.2; omega); go_simp
              try simp only [Act.put, List.setIfInBounds_toArray, List.set_cons_zero, List.set_cons_succ]
              refine WQ.yields (v := .bool false) (Or.inl ⟨by rfl, fun z hz => ?_⟩) ?_
              · have q1 := Q12.out.1; have q2 := Q12.out.2.1; have q3 := Q12.out.2.2; go_simp
              try simp only [Act.put, List.setIfInBounds_toArray, List.set_cons_zero, List.set_cons_succ]
              refine WQ.yields (v := .bool false) (Or.inl ⟨by rfl, fun z hz => ?_⟩) ?_
              · go_simp
              try simp only [Act.put, List.setIfInBounds_toArray, List.set_cons_zero, List.set_cons_succ]
              refine WQ.yields (v := .bool false) (Or.inl ⟨by rfl, fun z hz => ?_⟩) ?_
              · go_simp
              try simp only [Act.put, List.setIfInBounds_toArray, List.set_cons_zero, List.set_cons_succ]
              refine WQ.nil ?_
              intro z hz
              have S5 := S.up hz
              clear S CA CB CS LA LB hz
              go_wp2_with fail
              go_roundg (gk - 1)
              case measure => have := HS.out; omega
              case rel => exact ⟨s + 1, by have := HS.out; omega, by have := HS.out; go_num, S5⟩
          · obtain rfl : s = 6 := by omega
            go_wp2_with fail
            go_roundg (n - (j + 1))
            case measure => have := HJ.out; omega
            case rel => exact ⟨j + 1, by have := HJ.out; omega, by rw [hT.2], by have := HJ.out; go_num, S.sub (by simp)⟩
      · have eab : b = a := by
          have := HG.out.same j (by rw [HnE.out]; exact hlt) hjm
          rw [HA.out, HB.out] at this; injection this
        subst eab
        go_wp2_with (first
          | (refine wpList_loadmid_g (by rfl) 40 _ (by rfl) g (j * 23) (by rfl) b.cells _ ra Try.underlying40 rfl (by rw [hla]; exact size40) ?_)
          | (refine wpList_allocz rfl 40 (by rfl) Z40 23 zero40 ?_)
          | (refine wpList_storerow rfl 40 _ _ (by rfl) wr.heap.size (by rfl) Z40 b.cells.toArray (by rfl) (heap_last wr _) (by rw [List.size_toArray, hla]; exact size40) (by rw [z40s, List.size_toArray, hla]) hoa ?_)
          | (refine wpList_pause 40 _ (by rfl) ⟨g', j * 23, none⟩ (by rfl) ?_)
          | fail)
        refine Pause.mk ?_
        clear ra
        generalize (wr.alloc (.cells Z40 40)).setRow wr.heap.size b.cells.toArray = u1 at *
        generalize wr.heap.size = ba at *
        have TAB := TA.box Z40 b.cells.toArray 40
        clear S
        go_wp2_with (first
          | (refine wpList_loadmid_g (by rfl) 40 _ (by rfl) g' (j * 23) (by rfl) b.cells _ rb Try.underlying40 rfl (by rw [hlb]; exact size40) ?_)
          | (refine wpList_allocz rfl 40 (by rfl) Z40 23 zero40 ?_)
          | (refine wpList_storerow rfl 40 _ _ (by rfl) u1.heap.size (by rfl) Z40 b.cells.toArray (by rfl) (heap_last u1 _) (by rw [List.size_toArray, hlb]; exact size40) (by rw [z40s, List.size_toArray, hlb]) hob ?_)
          | (refine wpList_pause 40 _ (by rfl) ⟨ba, 0, none⟩ (by rfl) ?_)
          | fail)
        refine Pause.mk ?_
        clear rb TA
        generalize (u1.alloc (.cells Z40 40)).setRow u1.heap.size b.cells.toArray = u2 at *
        generalize u1.heap.size = bb at *
        have qa := TAB.at (b := ba) (o := .cells b.cells.toArray 40 (0, 0)) (by simp)
        have qb := TAB.at (b := bb) (o := .cells b.cells.toArray 40 (0, 0)) (by simp)
        go_wp2_with (first
          | (refine wpList_loadrow_g (by rfl) 40 _ (by rfl) ba (by rfl) b.cells.toArray 40 _ qa Try.underlying40 rfl (by rw [List.size_toArray, hla]; exact size40) ?_)
          | (refine wpList_loadrow_g (by rfl) 40 _ (by rfl) bb (by rfl) b.cells.toArray 40 _ qb Try.underlying40 rfl (by rw [List.size_toArray, hlb]; exact size40) ?_)
          | (refine wpList_eq_g (by rfl) false 40 _ _ _ (by rfl) b.cells.toArray b.cells.toArray (.bool true) (by rfl) (by rfl) guard40 (eq_tt HAO.out HBO.out true ⟨fun _ => rfl, fun _ => rfl⟩ _) ?_)
          | fail)
        go_roundg (gk - 1)
        case measure => have := HJ.out; omega
        case rel => exact ⟨j + 1, by have := HJ.out; omega, by rw [HTS.out j hjm], by have := HJ.out; go_num, TAB.sub (by simp)⟩
    · obtain rfl : j = n := by omega
      have hT := HTN.out
      rw [HnE.out] at hT
      rw [hT]
      go_wp2_with fail
      go_ret
      exact gives_of_eq rfl S.1
end Go.Proofs.Ytnooghehmgbemaa
