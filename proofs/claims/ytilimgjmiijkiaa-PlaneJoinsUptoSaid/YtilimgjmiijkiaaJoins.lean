/- PlaneJoins: the least box of any points is the reference's; asked again, and with the points written over in their places. Condition: what comes in is of bulk at most 1048576. -/
import Derived.Test.YtilimgjmiijkiaaL2
import Derived.Test.YtilimgjmiijkiaaA21
import Derived.Test.YtilimgjmiijkiaaA22
import Derived.Test.YtilimgjmiijkiaaA14
namespace Go.Proofs.Ytilimgjmiijkiaa
open Go.ChangeShapes Go.WideShapes Go.ChangeAt Go.RowKit Go.Joins Ieee
attribute [local go_sem] BW.cell BW.frozen
set_option linter.unusedVariables false
set_option linter.unusedSimpArgs false

set_option maxHeartbeats 8000000 in
theorem joins_core (A : Option Addr) (n c : Nat) (xs : List (Int × Int)) (a1 a2 a3 a4 e1 e2 e3 e4 : Int) (ok : Bool) (w : World) (h : PRd w w.heap.size A n xs) (hm : n ≤ 1048576) (hc : n ≤ c)
    (k1 : ∀ w A c, PRd w w.heap.size A n xs → n ≤ c → Calls Try.prog 27 #[.slice A n c] w (Gives (.tuple #[.agg #[.int .i16 a1, .int .i16 a2, .int .i16 a3, .int .i16 a4], .bool ok]) w))
    (k2 : ∀ w A c, PRd w w.heap.size A n xs → n ≤ c → Calls Try.prog 28 #[.slice A n c] w (Gives (.tuple #[.agg #[.int .i16 a1, .int .i16 a2, .int .i16 a3, .int .i16 a4], .bool ok]) w))
    (k3 : ∀ w A c, PRd w w.heap.size A n (flips xs n) → n ≤ c → Calls Try.prog 27 #[.slice A n c] w (Gives (.tuple #[.agg #[.int .i16 e1, .int .i16 e2, .int .i16 e3, .int .i16 e4], .bool ok]) w))
    (k4 : ∀ w A c, PRd w w.heap.size A n (flips xs n) → n ≤ c → Calls Try.prog 28 #[.slice A n c] w (Gives (.tuple #[.agg #[.int .i16 e1, .int .i16 e2, .int .i16 e3, .int .i16 e4], .bool ok]) w)) :
    Calls Try.prog 5 #[.slice A n c] w (Gives (.bool true) w) := by
  have hbd := h.2.1
  have hlen := h.1
  have HB := Lib.hid hbd
  have HL := Lib.hid hlen
  have K1 := Lib.hid k1
  have K2 := Lib.hid k2
  have K3 := Lib.hid k3
  have K4 := Lib.hid k4
  have HP := Lib.hid h
  clear hbd k1 k2 k3 k4 h hlen
  go_enter Try.func5, Try.ntmps5
  go_wp2_with fail
  refine (lent_any A n c xs _ HP.out hm hc).mono ?_
  rintro e w1 ⟨g, cap, rfl, hg, ⟨row⟩, hb⟩
  have hcap := row.hn
  have hcap' : n ≤ cap := by omega
  go_wp2_with fail
  refine (K1.out _ A c (HP.out.up hb) hc).mono ?_
  rintro e w2 ⟨rfl, z1, rfl⟩
  have row1 := row.below z1.h row.lt
  have b1 : Below w.heap.size w z1.i := hb.trans (z1.h.mono hb.size)
  clear row hb
  generalize z1.i = Z1 at *
  clear z1
  go_wp2_with fail
  refine (K2.out _ (some ⟨g, 0, none⟩) cap ((row1.alloc _).read HB.out) hcap').mono ?_
  rintro e w2 ⟨rfl, z2, rfl⟩
  have row2 := (row1.alloc _).below z2.h (row1.alloc _).lt
  have F4 := (Four.new Z1 a1 a2 a3 a4).below z2.h (by simp)
  have b2 : Below w.heap.size w z2.i := (b1.alloc b1.size _).trans (z2.h.mono (Nat.le_trans b1.size (by simp)))
  have g4 : w.heap.size ≤ Z1.heap.size := b1.size
  have l4 : g < Z1.heap.size := row1.lt
  have n4 : g ≠ Z1.heap.size := Nat.ne_of_lt row1.lt
  clear row1 b1
  generalize z2.i = Z2 at *
  generalize Z1.heap.size = B4 at *
  clear z2 Z1
  go_wp2_with fail
  refine (K2.out _ (some ⟨g, 0, none⟩) cap ((row2.alloc _).read HB.out) hcap').mono ?_
  rintro e w2 ⟨rfl, z3, rfl⟩
  have row3 := (row2.alloc _).below z3.h (row2.alloc _).lt
  have F6 := (Four.new Z2 a1 a2 a3 a4).below z3.h (by simp)
  have G4 := (F4.alloc _).below z3.h (F4.alloc _).lt
  have b3 : Below w.heap.size w z3.i := (b2.alloc b2.size _).trans (z3.h.mono (Nat.le_trans b2.size (by simp)))
  have g6 : w.heap.size ≤ Z2.heap.size := b2.size
  have n6 : g ≠ Z2.heap.size := Nat.ne_of_lt row2.lt
  have n46 : B4 ≠ Z2.heap.size := Nat.ne_of_lt F4.lt
  clear row2 b2 F4
  generalize z3.i = Z3 at *
  generalize Z2.heap.size = B6 at *
  clear z3 Z2
  obtain ⟨s0, s1, s2, s3, -, -, -, -, sl⟩ := id G4
  obtain ⟨t0, t1, t2, t3, -, -, -, -, tl⟩ := id F6
  go_wp2_with fail
  have b4 : Below w.heap.size w (Z3.alloc (Obj.cells #[.int .i16 a1, .int .i16 a2, .int .i16 a3, .int .i16 a4] 33)) := b3.alloc b3.size _
  refine (kept_any A g cap n c xs _ (row3.alloc _) (HP.out.up b4) hm hc).mono ?_
  rintro e w2 ⟨rfl, z4, rfl⟩
  have row4 := (row3.alloc _).below z4.h (row3.alloc _).lt
  have H4 := (G4.alloc _).below z4.h (G4.alloc _).lt
  have H6 := (F6.alloc _).below z4.h (F6.alloc _).lt
  have b5 : Below w.heap.size w z4.i := b4.trans (z4.h.mono b4.size)
  clear row3 b3 b4 G4 F6 s0 s1 s2 s3 sl t0 t1 t2 t3 tl
  generalize z4.i = Z4 at *
  generalize Z3.heap.size = B8 at *
  clear z4 Z3
  go_wp2_with fail
  go_loopw [10] (fun i wr => ∃ k : Nat, k ≤ n ∧ i = .int .i64 k ∧ Nonempty (Row wr g cap n (flips xs k)) ∧ Four wr B4 a1 a2 a3 a4 ∧ Four wr B6 a1 a2 a3 a4 ∧ Below w.heap.size w wr) (fun i _ => n - (intOf i).toNat)
  case atStart => exact ⟨0, Nat.zero_le _, rfl, ⟨by rw [flips_zero]; exact row4⟩, H4, H6, b5⟩
  case round =>
    obtain ⟨k, hk, rfl, ⟨rr⟩, J4, J6, hbw⟩ := hrel
    by_cases hlt : k < n
    · obtain ⟨p, hp⟩ : ∃ p, xs[k]? = some p := ⟨_, List.getElem?_eq_getElem (by rw [HL.out]; exact hlt)⟩
      obtain ⟨q0, q1⟩ := flips_at xs k p hp
      have rn := rr.put k p (-1 - p.1) q0
      rw [q1] at rn
      obtain ⟨d0, d1⟩ := rr.at (i := k) (p := p) (by rw [List.getElem?_append_left (List.getElem?_eq_some_iff.1 q0).1]; exact q0)
      have fz := rr.frozen (k * 2)
      obtain ⟨x1, x2, x3, x4⟩ := HB.out p (List.mem_of_getElem? hp)
      have RN := Lib.hid (Nonempty.intro rn)
      have N4 := Lib.hid (J4.far ⟨g, k * 2, none⟩ (Ne.symm n4) (.int .i16 (-1 - p.1)))
      have N6 := Lib.hid (J6.far ⟨g, k * 2, none⟩ (Ne.symm n6) (.int .i16 (-1 - p.1)))
      have NB := Lib.hid (hbw.setCell (p := ⟨g, k * 2, none⟩) hg (.int .i16 (-1 - p.1)))
      clear q0 q1 rn hp rr row4 H4 H6 b5 J4 J6 hbw
      go_wp2
      go_roundw
      case rel => exact ⟨k + 1, hlt, by go_num, RN.out, N4.out, N6.out, NB.out⟩
      case measure => simp [intOf]; omega
    · obtain rfl : k = n := by omega
      clear row4 H4 H6 b5
      go_wp2_with fail
      refine (lent_any (some ⟨g, 0, none⟩) k cap (flips xs k) _ (rr.read (flips_bd xs k HB.out)) hm hcap').mono ?_
      rintro e w1 ⟨g2, cap2, rfl, hg2, ⟨row2⟩, hb2⟩
      have r1 := rr.below hb2 rr.lt
      have J4' := J4.below hb2 J4.lt
      have J6' := J6.below hb2 J6.lt
      have c1 := hbw.trans (hb2.mono hbw.size)
      have hcap2 := row2.hn
      clear rr J4 J6 hbw hb2
      go_wp2_with fail
      refine (K3.out _ (some ⟨g2, 0, none⟩) cap2 (row2.read (flips_bd xs k HB.out)) (by omega)).mono ?_
      rintro e w2 ⟨rfl, z5, rfl⟩
      have r2 := r1.below z5.h r1.lt
      obtain ⟨s0, s1, s2, s3, fs0, fs1, fs2, fs3, sl⟩ := J4'.below z5.h J4'.lt
      obtain ⟨t0, t1, t2, t3, ft0, ft1, ft2, ft3, tl⟩ := J6'.below z5.h J6'.lt
      have c2 : Below w.heap.size w z5.i := c1.trans (z5.h.mono c1.size)
      clear r1 J4' J6' c1 row2
      generalize z5.i = Z5 at *
      clear z5
      go_wp2_with fail
      have hs : Below B4 Z5 ((((Z5.setCell ⟨B4, 0, none⟩ (.int .i16 e1)).setCell ⟨B4, 1, none⟩ (.int .i16 e2)).setCell ⟨B4, 2, none⟩ (.int .i16 e3)).setCell ⟨B4, 3, none⟩ (.int .i16 e4)) :=
        ((((Below.refl B4 Z5).setCell (p := ⟨B4, 0, none⟩) (Nat.le_refl _) _).setCell (p := ⟨B4, 1, none⟩) (Nat.le_refl _) _).setCell (p := ⟨B4, 2, none⟩) (Nat.le_refl _) _).setCell (p := ⟨B4, 3, none⟩) (Nat.le_refl _) _
      have c3 := c2.trans (hs.mono g4)
      refine (K4.out _ (some ⟨g, 0, none⟩) cap ((r2.below hs l4).read (flips_bd xs k HB.out)) hcap').mono ?_
      rintro e w2 ⟨rfl, z6, rfl⟩
      have q0 : z6.i.cell? ⟨B4, 0, none⟩ = some (.int .i16 e1) := by rw [z6.cell (by simpa using sl)]; simp [go_sem, s0, s1, s2, s3]
      have q1 : z6.i.cell? ⟨B4, 1, none⟩ = some (.int .i16 e2) := by rw [z6.cell (by simpa using sl)]; simp [go_sem, s0, s1, s2, s3]
      have q2 : z6.i.cell? ⟨B4, 2, none⟩ = some (.int .i16 e3) := by rw [z6.cell (by simpa using sl)]; simp [go_sem, s0, s1, s2, s3]
      have q3 : z6.i.cell? ⟨B4, 3, none⟩ = some (.int .i16 e4) := by rw [z6.cell (by simpa using sl)]; simp [go_sem, s0, s1, s2, s3]
      have p0 : z6.i.cell? ⟨B6, 0, none⟩ = some (.int .i16 a1) := by rw [z6.cell (by simpa using tl)]; simp [go_sem, t0, t1, t2, t3, n46, Ne.symm n46]
      have p1 : z6.i.cell? ⟨B6, 1, none⟩ = some (.int .i16 a2) := by rw [z6.cell (by simpa using tl)]; simp [go_sem, t0, t1, t2, t3, n46, Ne.symm n46]
      have p2 : z6.i.cell? ⟨B6, 2, none⟩ = some (.int .i16 a3) := by rw [z6.cell (by simpa using tl)]; simp [go_sem, t0, t1, t2, t3, n46, Ne.symm n46]
      have p3 : z6.i.cell? ⟨B6, 3, none⟩ = some (.int .i16 a4) := by rw [z6.cell (by simpa using tl)]; simp [go_sem, t0, t1, t2, t3, n46, Ne.symm n46]
      have y0 : z6.i.frozen? ⟨B6, 0, none⟩ = false := by rw [z6.frozen (by simpa using tl)]; simp [go_sem, ft0]
      have y1 : z6.i.frozen? ⟨B6, 1, none⟩ = false := by rw [z6.frozen (by simpa using tl)]; simp [go_sem, ft1]
      have y2 : z6.i.frozen? ⟨B6, 2, none⟩ = false := by rw [z6.frozen (by simpa using tl)]; simp [go_sem, ft2]
      have y3 : z6.i.frozen? ⟨B6, 3, none⟩ = false := by rw [z6.frozen (by simpa using tl)]; simp [go_sem, ft3]
      have c4 := c3.trans (z6.h.mono c3.size)
      clear hs c3 r2 c2 s0 s1 s2 s3 fs0 fs1 fs2 fs3 sl t0 t1 t2 t3 ft0 ft1 ft2 ft3 tl
      generalize z6.i = Z6 at *
      clear z6 Z5
      go_wp2_with fail
      have c5 := (((c4.setCell (p := ⟨B6, 0, none⟩) g6 (.int .i16 e1)).setCell (p := ⟨B6, 1, none⟩) g6 (.int .i16 e2)).setCell (p := ⟨B6, 2, none⟩) g6 (.int .i16 e3)).setCell (p := ⟨B6, 3, none⟩) g6 (.int .i16 e4)
      refine (lives_any _).mono ?_
      rintro e w2 ⟨rfl, z7, rfl⟩
      go_wp2
      go_ret
      exact gives_of_eq rfl (c5.trans (z7.h.mono c5.size))

theorem joins_law (A : Option Addr) (n c : Nat) (xs : List (Int × Int)) (w : World) (h : PRd w w.heap.size A n xs) (hm : n ≤ 1048576) (hc : n ≤ c) :
    Calls Try.prog 5 #[.slice A n c] w (Gives (.bool true) w) := by
  rcases Nat.eq_zero_or_pos n with h0 | h0
  · subst h0
    exact joins_core A 0 c xs 0 0 0 0 0 0 0 0 false w h hm hc (fun w A c _ _ => rjoin_none A c w) (fun w A c _ _ => join_none A c w) (fun w A c _ _ => rjoin_none A c w) (fun w A c _ _ => join_none A c w)
  · exact joins_core A n c xs _ _ _ _ _ _ _ _ true w h hm hc (fun w A c hp hc => rjoin_some A n c xs w hp h0 (by omega) hc) (fun w A c hp hc => join_some A n c xs w hp h0 (by omega) hc)
      (fun w A c hp hc => rjoin_some A n c _ w hp h0 (by omega) hc) (fun w A c hp hc => join_some A n c _ w hp h0 (by omega) hc)

set_option maxRecDepth 100000 in
theorem joins_contract (H : Type) (enc : TypeId × Value → H) (W : World) (base : Nat) (args : Array Value) (ds gs : List (DataW H)) (before : List MemPlace)
    (hval : ∀ (j : Nat) t v, Try.f5.params[j]? = some t → args[j]? = some v → Value.okWide Try.prog W .any base t v)
    (hW : DataW.Whole enc Try.prog Try.f5.params.toList Rows.planeJoinsSpec.vars false W args.toList ds gs before) (hk : Rows.uptoSmall H (ds ++ gs) = true) :
    Calls Try.prog 5 args W fun e W' => ∃ v, e = .returned v ∧ Rows.planeJoinsSpec.post enc Try.prog Try.f5 false true false false W args v W' := by
  have hW' := hW
  obtain ⟨p, q, hA0, hV, rfl, hfz, hnd⟩ := hW
  have hA : DataW.TrodAll enc Try.prog W 0 (fun _ => true) true Try.f5.params.toList args.toList ds p := hA0
  rw [Try.params5] at hA hval
  obtain ⟨v0, d0, rfl, rfl, h0⟩ := trodAll_one hA
  obtain ⟨rfl, rfl⟩ := trodVars_none hV
  obtain ⟨A, n, c, xs, rfl, hc, hp, hd⟩ := open_pts (hval 0 30 _ rfl rfl) h0
  have hn : n ≤ 1048576 := by
    rcases hd with rfl | ⟨elems, spare, rfl, rfl⟩
    · decide
    · exact bulk_slice elems spare hk
  refine (joins_law A n c xs W hp hn hc).mono fun e W2 ⟨he, x, hx⟩ => ⟨_, he, ?_⟩
  exact law_post hW' rfl rfl rfl (by kernel_rfl) (hx ▸ x.h)

set_option maxRecDepth 100000 in
theorem joins_lifted (os : Os) (started : os.Started) (H : Type) (enc : TypeId × Value → H) (F : Stop.Interp) :
    ReturnsInHanded {} Try.checked os 5 .any ((Rows.OpenSpec.upto Rows.planeJoinsSpec).pre6 enc Try.prog Try.f5 Rows.planeJoinsUptoRow.domain false) (((Rows.OpenSpec.upto Rows.planeJoinsSpec).at F).post enc Try.prog Try.f5 false true false false) := by
  refine returnsInHanded_of_cond (C := Try.checked) (s := Rows.OpenSpec.upto Rows.planeJoinsSpec) (k := Rows.uptoSmall) rfl Try.own started (by kernel_rfl) Try.func5
    (OpenSpec.witness (enc := enc) (C := Try.checked) (s := Rows.OpenSpec.upto Rows.planeJoinsSpec) (k := Rows.uptoSmall) rfl false ⟨#[], #[.slice none 0 0], []⟩ 8 (by kernel_rfl) (by kernel_rfl) (by kernel_rfl)
      (x := ([.nil], [], [])) (by kernel_rfl) rfl (by kernel_rfl)) ?_
  intro W base args ds gs before hval hW _ hk _
  exact joins_contract H enc W base args ds gs before hval hW hk

theorem joins_holds : Rows.PlaneJoinsUptoSaid :=
  OpenClaim.holds_of_cond 5 Try.f5 rfl rfl rfl rfl rfl rfl rfl ⟨rfl, rfl, rfl, rfl, rfl⟩ rfl rfl rfl rfl rfl (by kernel_rfl) Try.func5 (by kernel_rfl)
    (of_decide_eq_true (by kernel_rfl)) (by unfold Func.isWrapper; rw [if_neg (of_decide_eq_false (by kernel_rfl))]; exact ⟨rfl, rfl⟩)
    (fun os started H enc _ F => joins_lifted os started H enc F)
end Go.Proofs.Ytilimgjmiijkiaa
