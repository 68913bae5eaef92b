/- TripPlays: TripPlays, walked. -/
import Derived.Test.YtnooghehmgbemaaGreatP19
namespace Go.Proofs.YtnooghehmgbemaaGreat
open Go.RowKit
set_option linter.unusedVariables false
set_option linter.unusedSimpArgs false

theorem TripsAt.iff {F G : Nat → Prop} {w : World} {tb : Nat} {q : St} (h : TripsAt F w tb q) (e : ∀ j, F j ↔ G j) : TripsAt G w tb q := by
  have : F = G := by funext j; exact propext (e j)
  exact this ▸ h
def F5 (s0 s1 s2 : Nat) (i b : Nat) : Prop := (i = 0 ∧ s0 ≤ b ∧ b < s1) ∨ (i = 2 ∧ s1 ≤ b ∧ b < s2) ∨ (i = 1 ∧ b = s2) ∨ (i = 3 ∧ b = s2 + 1) ∨ (i = 4 ∧ b = s2 + 2)
theorem five_new {w u0 u1 u2 : World} {tb ub : Nat} (h0 : Below w.heap.size w u0) (h1 : Below u0.heap.size u0 u1) (t1 : TripsAt (fun j => u0.heap.size ≤ j ∧ j < u1.heap.size) u1 tb ⟨0, []⟩) (h2 : Below u1.heap.size u1 u2) (t2 : TripsAt (fun j => u1.heap.size ≤ j ∧ j < u2.heap.size) u2 ub ⟨0, []⟩) :
    Five w (((u2.alloc (.cells #[.slice none 0 0, .int .i64 0] 77)).alloc (.cells #[.slice none 0 0, .int .i64 0] 77)).alloc (.cells (bookC 0 (.slice none 0 0)) 54)) tb u2.heap.size ub (u2.heap.size + 1) (u2.heap.size + 2) ⟨0, []⟩ ⟨0, []⟩ [] [] := by
  have z0 := h0.size
  have z1 := h1.size
  have z2 := h2.size
  have hb : Below u2.heap.size u2 (((u2.alloc (.cells #[.slice none 0 0, .int .i64 0] 77)).alloc (.cells #[.slice none 0 0, .int .i64 0] 77)).alloc (.cells (bookC 0 (.slice none 0 0)) 54)) := (((Below.refl _ u2).alloc (Nat.le_refl _) _).alloc (by simp) _).alloc (by simp; omega) _
  have e1 : (((u2.alloc (.cells #[.slice none 0 0, .int .i64 0] 77)).alloc (.cells #[.slice none 0 0, .int .i64 0] 77)).alloc (.cells (bookC 0 (.slice none 0 0)) 54)).heap[u2.heap.size]? = some (.cells #[.slice none 0 0, .int .i64 0] 77 (0, 0)) := (Below.heap_alloc _ _ _ (by simp <;> omega)).trans (heap_first u2 _ _)
  have e2 : (((u2.alloc (.cells #[.slice none 0 0, .int .i64 0] 77)).alloc (.cells #[.slice none 0 0, .int .i64 0] 77)).alloc (.cells (bookC 0 (.slice none 0 0)) 54)).heap[u2.heap.size + 1]? = some (.cells #[.slice none 0 0, .int .i64 0] 77 (0, 0)) := (Below.heap_alloc _ _ _ (by simp)).trans (heap_last1 u2 _ _)
  have e3 : (((u2.alloc (.cells #[.slice none 0 0, .int .i64 0] 77)).alloc (.cells #[.slice none 0 0, .int .i64 0] 77)).alloc (.cells (bookC 0 (.slice none 0 0)) 54)).heap[u2.heap.size + 2]? = some (.cells (bookC 0 (.slice none 0 0)) 54 (0, 0)) := by
    have := heap_last ((u2.alloc (.cells #[.slice none 0 0, .int .i64 0] 77)).alloc (.cells #[.slice none 0 0, .int .i64 0] 77)) (.cells (bookC 0 (.slice none 0 0)) 54)
    simpa using this
  have sz : (((u2.alloc (.cells #[.slice none 0 0, .int .i64 0] 77)).alloc (.cells #[.slice none 0 0, .int .i64 0] 77)).alloc (.cells (bookC 0 (.slice none 0 0)) 54)).heap.size = u2.heap.size + 3 := by simp
  generalize ((u2.alloc (.cells #[.slice none 0 0, .int .i64 0] 77)).alloc (.cells #[.slice none 0 0, .int .i64 0] 77)).alloc (.cells (bookC 0 (.slice none 0 0)) 54) = u at *
  have hno : ∀ (X : Nat → Prop), Lies (fun _ => False) u2 u := fun _ => Lies.of_below hb
  refine ⟨F5 u0.heap.size u1.heap.size u2.heap.size, {
    t := ((t1.of_lies (X := fun _ => False) (Lies.of_below h2) (fun _ _ => id)).of_lies (X := fun _ => False) (Lies.of_below hb) (fun _ _ => id)).iff (fun j => by unfold F5; simp)
    r := ⟨fun k hk => by unfold F5 at hk; omega, .slice none 0 0, { hd := e1, row := World.ownsRow_nil _ _ _ _, fr := by unfold F5; simp, fo := fun g hg => by cases hg }⟩
    u := (t2.of_lies (X := fun _ => False) (Lies.of_below hb) (fun _ _ => id)).iff (fun j => by unfold F5; simp)
    s := ⟨fun k hk => by unfold F5 at hk; omega, .slice none 0 0, { hd := e2, row := World.ownsRow_nil _ _ _ _, fr := by unfold F5; simp, fo := fun g hg => by cases hg }⟩
    k := ⟨fun k hk => by unfold F5 at hk; omega, .slice none 0 0, { hd := e3, row := World.ownsRow_nil _ _ _ _, leaf := by simp, apart := by simp, num := by simp, len := by simp, fr := by unfold F5; simp, fo := fun g hg => by cases hg }⟩
    ap := fun i j b hi hj => by unfold F5 at hi hj; omega
    hi := fun i b hi => by unfold F5 at hi; omega
    below := ((h0.trans (h1.mono z0)).trans (h2.mono (by omega))).trans (hb.mono (by omega))
    hb := by simp
    nb := by simp }⟩
theorem Five.listed2 {w0 w : World} {tb rb ub sb kb : Nat} {q1 q2 : St} {es : List HE} (h : Five w0 w tb rb ub sb kb q1 q2 es []) (hn : q1.l.length ≤ 1048576) : Calls Tryz.prog 8 #[.pointer (some ⟨tb, 0, none⟩)] w fun e w' => ∃ (x : Value) (e0 : HE) (cs : List (Nat × Obj)), e = .returned x ∧ e0.v = x ∧ e0.num = (es.length : Int) + 1 ∧ e0.len ≤ 1048576 ∧ e0.New w' ∧ (∀ b, e0.g = some b → w0.heap.size ≤ b ∧ ∃ o, (b, o) ∈ cs) ∧ Five w0 w' tb rb ub sb kb q1 q2 es cs ∧ ∀ u : World, (∀ p ∈ cs, u.heap[p.1]? = some p.2) → RowT u x q1.l := by
  obtain ⟨F, hF⟩ := h.trip
  refine (list_ok hF hn).mono ?_
  rintro e w' ⟨x, rfl, hb, ho⟩
  rcases ho.2 with ⟨rfl, h0⟩ | ⟨g, cap, cur, rfl, hg, h1, h2, h3, h4, h5⟩
  · exact ⟨_, ⟨none, 0, 0, es.length + 1⟩, [], rfl, rfl, rfl, Nat.zero_le _, .inl ⟨rfl, rfl, rfl⟩, fun b hb => (by cases hb), h.up hb, fun u _ => by rw [List.eq_nil_of_length_eq_zero h0]; exact RowT.nil u⟩
  · refine ⟨_, ⟨some g, q1.l.length, cap, es.length + 1⟩, [(g, .cells cur 83 (0, 0))], rfl, rfl, rfl, hn, .inr ⟨g, cur, rfl, h1, h2, h3, h4⟩, fun b hb => ?_, by simpa using h.add (cs := [(g, .cells cur 83 (0, 0))]) hb (fun p hp => by rw [List.mem_singleton.1 hp]; exact ⟨hg, h1⟩), fun u hu => ?_⟩
    · injection hb with hb; subst hb
      exact ⟨Nat.le_trans h.below.size hg, .cells cur 83 (0, 0), by simp⟩
    · exact ⟨_, cap, rfl, fun _ => ⟨g, cur, rfl, hu (g, _) (by simp), h5⟩⟩
set_option maxRecDepth 20000 in
set_option maxHeartbeats 32000000 in
theorem plays_core (xs : List OpV) (ok : ∀ o ∈ xs, o.ok) (A : Option Addr) (n c : Nat) (hn : n ≤ 9223372036854775807) (w : World) (hR : Rd OpV.cells 19 w w.heap.size A n xs) : Calls Tryz.prog 3 #[.slice A n c] w (Gives (.bool true) w) := by
  have HR := Lib.hid hR
  have HOK := Lib.hid ok
  have HLN := Lib.hid hR.len
  clear hR ok
  go_enter Tryz.func3, Tryz.ntmps3
  go_wp2_with fail
  have cb : (w.alloc (.cells #[.int .i64 n] 3)).cell? ⟨w.heap.size, 0, none⟩ = some (.int .i64 n) := by rw [cell_of_row _ _ 0 _ _ _ (heap_last w _)]; rfl
  refine (beyond_ok w.heap.size n hn _ cb).mono ?_
  clear cb
  by_cases hbig : 1048576 < n
  · rw [decide_eq_true hbig]
    rintro _ _ ⟨rfl, rfl⟩
    clear hbig
    go_wp2_with fail
    go_ret
    exact gives_of_eq rfl ((Below.refl _ w).alloc (Nat.le_refl _) _)
  rw [decide_eq_false hbig]
  rintro _ _ ⟨rfl, rfl⟩
  have hb0 : Below w.heap.size w (w.alloc (.cells #[.int .i64 n] 3)) := (Below.refl _ w).alloc (Nat.le_refl _) _
  generalize w.alloc (.cells #[.int .i64 n] 3) = u0 at *
  go_wp2_with fail
  refine (new_at u0).mono ?_
  rintro e u1 ⟨tb, rfl, h1, t1⟩
  go_wp2_with fail
  refine (new_at u1).mono ?_
  rintro e u2 ⟨ub, rfl, h2, t2⟩
  have S := five_new hb0 h1 t1 h2 t2
  clear hb0 h1 t1 h2 t2
  go_wp2_with fail
  refine (ref_new u2).mono ?_
  rintro _ _ ⟨rfl, rfl⟩
  go_wp2_with fail
  refine (ref_new _).mono ?_
  rw [World.size_alloc]
  rintro _ _ ⟨rfl, rfl⟩
  go_wp2_with (refine wpList_allocz rfl 54 (by rfl) (bookC 0 (.slice none 0 0)) 26 zero54 ?_)
  generalize ((u2.alloc (.cells #[.slice none 0 0, .int .i64 0] 77)).alloc (.cells #[.slice none 0 0, .int .i64 0] 77)).alloc (.cells (bookC 0 (.slice none 0 0)) 54) = u3 at *
  generalize u2.heap.size + 2 = kb at *
  generalize u2.heap.size + 1 = sb at *
  generalize u2.heap.size = rb at *
  have hN : n ≤ 1048576 := by omega
  clear hbig u0 u1 u2
  go_wp2_with fail
  go_loopg [8] n (fun gk v8 wr => ∃ (i : Nat) (q1 q2 : St) (es : List HE), i + gk = n ∧ v8 = .int .i64 i ∧ Five w wr tb rb ub sb kb q1 q2 es [] ∧ q1.l.length ≤ i ∧ q2.l.length ≤ i ∧ es.length ≤ 2 * i)
  case atStart => exact ⟨0, ⟨0, []⟩, ⟨0, []⟩, [], by omega, rfl, S, Nat.le_refl _, Nat.le_refl _, Nat.le_refl _⟩
  case round =>
    clear S
    obtain ⟨i, q1, q2, es, hi, rfl, S, l1, l2, l3⟩ := hrel
    by_cases hlt : i < n
    · obtain ⟨o, ho⟩ : ∃ o, xs[i]? = some o := ⟨_, List.getElem?_eq_getElem (by rw [HLN.out]; exact hlt)⟩
      have HO := Lib.hid (HOK.out o (List.mem_of_getElem? ho))
      obtain ⟨ab, ao, eA, hab, ra⟩ := (HR.out.below S.below).row ho
      subst eA
      have HJ := Lib.hid (And.intro hi hlt)
      have HL := Lib.hid (And.intro l1 (And.intro l2 l3))
      have CS := S.step o HO.out (by omega) (by omega)
      have hlo := HO.out.length
      clear ho hab S l1 l2 l3
      go_wp2_with (first
        | (refine wpList_loadmid_g (by rfl) 62 _ (by rfl) ab (ao + i * 19) (by rfl) o.cells _ ra Tryz.underlying62 rfl (by rw [hlo]; exact size28) ?_)
        | fail)
      refine CS.mono ?_
      clear CS ra hlo
      rintro e w1 ⟨rfl, q1', es', S, m1, m2⟩
      have HM := Lib.hid (And.intro m1 m2)
      clear m1 m2
      obtain ⟨p, hp⟩ : ∃ p, xs[n - 1 - i]? = some p := ⟨_, List.getElem?_eq_getElem (by rw [HLN.out]; omega)⟩
      have HP := Lib.hid (HOK.out p (List.mem_of_getElem? hp))
      obtain ⟨ab', ao', eA, hab, ra⟩ := (HR.out.below S.below).row hp
      injection eA with eA
      injection eA with ea eo
      subst ea
      subst eo
      have CS := S.swap.step p HP.out (by have := HL.out; omega) (by have := HL.out; have := HM.out; omega)
      have hlo := HP.out.length
      clear hp hab S
      go_wp2_with (first
        | (refine wpList_loadmid_g (by rfl) 62 _ (by rfl) ab (ao + (n - 1 - i) * 19) (by rfl) p.cells _ ra Tryz.underlying62 rfl (by rw [hlo]; exact size28) ?_)
        | fail)
      refine CS.mono ?_
      clear CS ra hlo
      rintro e w2 ⟨rfl, q2', es2, S, m1, m2⟩
      go_wp2_with fail
      go_roundg (gk - 1)
      case measure => omega
      case rel => exact ⟨i + 1, q1', q2', es2, by have := HJ.out; omega, by go_num, S.swap, by have := HM.out; have := HL.out; omega, by have := HM.out; have := HL.out; omega, by have := HM.out; have := HL.out; omega⟩
    · obtain rfl : i = n := by omega
      clear hlt hi
      have HL := Lib.hid (And.intro l1 (And.intro l2 l3))
      have CL := S.listed2 (by omega)
      clear S l1 l2 l3
      go_wp2_with fail
      refine CL.mono ?_
      clear CL
      rintro e w1 ⟨v, e0, cs, rfl, hev, hnum, hcap, hnew, hin, S, hrow⟩
      subst hev
      have HROW := Lib.hid hrow
      have CK := trips_keep (S.keep e0 hnum hnew hin hcap (by have := HL.out; omega))
      clear hnum hnew hin hcap hrow S
      go_wp2_with fail
      refine CK.mono ?_
      clear CK
      rintro en w2 ⟨rfl, S, hbs⟩
      have HBS := Lib.hid hbs
      clear hbs
      have HQ := Lib.hid S.ok
      have HQ2 := Lib.hid S.swap.ok
      have CL := (by obtain ⟨F, hF⟩ := S.ref; exact ref_list hF HQ.out (by have := HL.out; omega) : Calls Tryz.prog 11 #[.pointer (some ⟨rb, 0, none⟩)] w2 fun e w' => ∃ v, e = .returned v ∧ Below w2.heap.size w2 w' ∧ w'.ownsRow w2.heap.size 83 23 v q1.l.length ((q1.l.map Tr.cells).flatMap id))
      go_wp2_with fail
      refine CL.mono ?_
      clear CL
      rintro e w3 ⟨v3, rfl, hb3, ho3⟩
      have S3 := S.up hb3
      have hv1 : RowT w3 e0.v q1.l := (HROW.out w2 HBS.out).below hb3 (Nat.le_refl _)
      have hv2 : RowT w3 v3 q1.l := RowT.of_own ho3
      have CS := S3.gives (same_ok q1.l HQ.out.ok (by have := HL.out; omega) e0.v v3 w3 hv1 hv2)
      clear hv1 hv2 S S3 hb3 ho3 HROW HBS
      go_wp2_with fail
      refine CS.mono ?_
      clear CS
      rintro e w4 ⟨rfl, S⟩
      have CL := (by obtain ⟨F, hF⟩ := S.swap.trip; exact list_ok hF (by have := HL.out; omega) : Calls Tryz.prog 8 #[.pointer (some ⟨ub, 0, none⟩)] w4 fun e w' => ∃ v, e = .returned v ∧ Below w4.heap.size w4 w' ∧ w'.ownsRow w4.heap.size 83 23 v q2.l.length ((q2.l.map Tr.cells).flatMap id))
      go_wp2_with fail
      refine CL.mono ?_
      clear CL
      rintro e w5 ⟨v5, rfl, hb5, ho5⟩
      have S5 := S.up hb5
      have HV5 := Lib.hid (RowT.of_own ho5)
      have CL := (by obtain ⟨F, hF⟩ := S5.swap.ref; exact ref_list hF HQ2.out (by have := HL.out; omega) : Calls Tryz.prog 11 #[.pointer (some ⟨sb, 0, none⟩)] w5 fun e w' => ∃ v, e = .returned v ∧ Below w5.heap.size w5 w' ∧ w'.ownsRow w5.heap.size 83 23 v q2.l.length ((q2.l.map Tr.cells).flatMap id))
      clear S hb5 ho5
      go_wp2_with fail
      refine CL.mono ?_
      clear CL
      rintro e w6 ⟨v6, rfl, hb6, ho6⟩
      have S6 := S5.up hb6
      have CS := S6.gives (same_ok q2.l HQ2.out.ok (by have := HL.out; omega) v5 v6 w6 (HV5.out.below hb6 (Nat.le_refl _)) (RowT.of_own ho6))
      clear S5 S6 hb6 ho6
      go_wp2_with fail
      refine CS.mono ?_
      clear CS
      rintro e w7 ⟨rfl, S⟩
      have CA := S.apart (by have := HL.out; simp; omega)
      clear S
      go_wp2_with fail
      refine CA.mono ?_
      clear CA
      rintro e w8 ⟨rfl, B8, T8, R8⟩
      have HB := Lib.hid B8
      have HR8 := Lib.hid R8
      have CL := (by obtain ⟨F, hF⟩ := T8; exact list_ok hF (by have := HL.out; omega) : Calls Tryz.prog 8 #[.pointer (some ⟨tb, 0, none⟩)] w8 fun e w' => ∃ v, e = .returned v ∧ Below w8.heap.size w8 w' ∧ w'.ownsRow w8.heap.size 83 23 v q1.l.length ((q1.l.map Tr.cells).flatMap id))
      clear T8 R8 B8
      go_wp2_with fail
      refine CL.mono ?_
      clear CL
      rintro e w9 ⟨v9, rfl, hb9, ho9⟩
      have HV9 := Lib.hid (RowT.of_own ho9)
      have HB9 := Lib.hid (HB.out.trans (hb9.mono HB.out.size))
      have CL := (by obtain ⟨F, hF⟩ := HR8.out; exact ref_list (hF.of_lies (X := fun _ => False) (Lies.of_below hb9) (fun _ _ => id)) HQ.out (by have := HL.out; omega) : Calls Tryz.prog 11 #[.pointer (some ⟨rb, 0, none⟩)] w9 fun e w' => ∃ v, e = .returned v ∧ Below w9.heap.size w9 w' ∧ w'.ownsRow w9.heap.size 83 23 v q1.l.length ((q1.l.map Tr.cells).flatMap id))
      clear hb9 ho9 HR8 HB
      go_wp2_with fail
      refine CL.mono ?_
      clear CL
      rintro e w10 ⟨v10, rfl, hb10, ho10⟩
      have HB := Lib.hid (HB9.out.trans (hb10.mono HB9.out.size))
      have CS := same_ok q1.l HQ.out.ok (by have := HL.out; omega) v9 v10 w10 (HV9.out.below hb10 (Nat.le_refl _)) (RowT.of_own ho10)
      clear HB9 hb10 ho10
      go_wp2_with fail
      refine CS.mono ?_
      clear CS
      rintro e w11 ⟨rfl, x, hx⟩
      have HB2 := Lib.hid (HB.out.trans ((hx ▸ x.h : Below w10.heap.size w10 w11).mono HB.out.size))
      clear hx x HB
      have CA := alive_ok w11
      go_wp2_with fail
      refine CA.mono ?_
      clear CA
      rintro e w12 ⟨rfl, x, hx⟩
      have HB := Lib.hid (HB2.out.trans ((hx ▸ x.h : Below w11.heap.size w11 w12).mono HB2.out.size))
      clear hx x HB2
      go_wp2_with fail
      go_ret
      exact gives_of_eq rfl HB.out
end Go.Proofs.YtnooghehmgbemaaGreat
