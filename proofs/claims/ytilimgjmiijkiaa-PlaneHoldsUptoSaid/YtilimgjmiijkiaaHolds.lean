/- PlaneHolds: the box of some points has them all, each side has one of them, and one point more that lies in it changes nothing. Condition: what comes in is of bulk at most 1048576. -/
import Derived.Test.YtilimgjmiijkiaaL2
import Derived.Test.YtilimgjmiijkiaaA23
import Derived.Test.YtilimgjmiijkiaaA14
namespace Go.Proofs.Ytilimgjmiijkiaa
open Go.ChangeShapes Go.WideShapes Go.ChangeAt Go.RowKit Go.Joins Ieee
attribute [local go_sem] BW.cell BW.frozen
set_option linter.unusedVariables false
set_option linter.unusedSimpArgs false

set_option maxHeartbeats 1000000 in
theorem holds_none (A : Option Addr) (c : Nat) (w : World) : Calls Try.prog 19 #[.slice A 0 c] w (Gives (.bool true) w) := by
  go_enter Try.func19, Try.ntmps19
  go_wp2_with fail
  refine (lent_none A c _).mono ?_
  rintro e w1 ⟨g, cap, rfl, hg, ⟨row⟩, hb⟩
  have hcap := row.hn
  go_wp2_with fail
  refine (join_none _ _ _).mono ?_
  rintro e w2 ⟨rfl, z1, rfl⟩
  have b1 : Below w.heap.size w z1.i := hb.trans (z1.h.mono hb.size)
  clear row hb
  generalize z1.i = Z1 at *
  clear z1
  go_wp2_with fail
  have b2 := b1.alloc b1.size (Obj.cells #[.int .i16 0, .int .i16 0, .int .i16 0, .int .i16 0] 33)
  refine (lives_any _).mono ?_
  rintro e w2 ⟨rfl, z2, rfl⟩
  go_wp2
  go_ret
  exact gives_of_eq rfl (b2.trans (z2.h.mono b2.size))

set_option maxRecDepth 50000 in
set_option maxHeartbeats 8000000 in
theorem holds_core (b off n c : Nat) (xs : List (Int × Int)) (a1 a2 a3 a4 : Int) (w : World) (h : PRd w w.heap.size (some ⟨b, off, none⟩) n xs) (hn : 0 < n) (hm : n ≤ 1048576) (hc : n ≤ c) (hb : b < w.heap.size)
    (hcell : ∀ i p, xs[i]? = some p → w.cell? ⟨b, off + i * 2, none⟩ = some (.int .i16 p.1) ∧ w.cell? ⟨b, off + i * 2 + 1, none⟩ = some (.int .i16 p.2))
    (k1 : ∀ w g cap, PRd w w.heap.size (some ⟨g, 0, none⟩) n xs → n ≤ cap → Calls Try.prog 28 #[.slice (some ⟨g, 0, none⟩) n cap] w (Gives (.tuple #[.agg #[.int .i16 a1, .int .i16 a2, .int .i16 a3, .int .i16 a4], .bool true]) w))
    (k2 : ∀ w g cap, PRd w w.heap.size (some ⟨g, 0, none⟩) (n + 1) (xs ++ [(a1, a4)]) → n + 1 ≤ cap → Calls Try.prog 28 #[.slice (some ⟨g, 0, none⟩) (n + 1) cap] w (Gives (.tuple #[.agg #[.int .i16 a1, .int .i16 a2, .int .i16 a3, .int .i16 a4], .bool true]) w))
    (k3 : ∀ w p, p ∈ xs → Calls Try.prog 44 #[.agg #[.int .i16 p.1, .int .i16 p.2], .agg #[.int .i16 a1, .int .i16 a2, .int .i16 a3, .int .i16 a4]] w (Gives (.bool true) w))
    (s1 : (xs.any fun p => p.1 == a1) = true) (s2 : (xs.any fun p => p.1 == a3) = true) (s3 : (xs.any fun p => p.2 == a2) = true) (s4 : (xs.any fun p => p.2 == a4) = true)
    (m1 : -32768 ≤ a1) (m2 : a1 ≤ 32767) (m3 : -32768 ≤ a4) (m4 : a4 ≤ 32767) :
    Calls Try.prog 19 #[.slice (some ⟨b, off, none⟩) n c] w (Gives (.bool true) w) := by
  have hn0 : ((n : Int) == 0) = false := by simp; omega
  obtain ⟨i0, hi, hz0, hz1, hz2⟩ := info_parts Try.info24
  have hbd := h.2.1
  have hlen := h.1
  have HB := Lib.hid hbd
  have HL := Lib.hid hlen
  have HC := Lib.hid hcell
  have K1 := Lib.hid k1
  have K2 := Lib.hid k2
  have K3 := Lib.hid k3
  have HP := Lib.hid h
  have S := Lib.hid (And.intro s1 (And.intro s2 (And.intro s3 s4)))
  clear hbd k1 k2 k3 h hlen hcell s1 s2 s3 s4
  go_enter Try.func19, Try.ntmps19
  go_wp2_with fail
  refine (lent_any (some ⟨b, off, none⟩) n c xs _ HP.out hm hc).mono ?_
  rintro e w1 ⟨g, cap, rfl, hg, ⟨row⟩, hbw1⟩
  have hcap := row.hn
  have hcap' : n ≤ cap := by omega
  go_wp2_with fail
  refine (K1.out _ g cap (row.read HB.out) hcap').mono ?_
  rintro e w2 ⟨rfl, z1, rfl⟩
  have b1 : Below w.heap.size w z1.i := hbw1.trans (z1.h.mono hbw1.size)
  clear row hbw1 hcap
  generalize z1.i = Z1 at *
  clear z1
  have F4 := Four.new Z1 a1 a2 a3 a4
  have b2 := b1.alloc b1.size (Obj.cells #[.int .i16 a1, .int .i16 a2, .int .i16 a3, .int .i16 a4] 33)
  have g4 : w.heap.size ≤ Z1.heap.size := b1.size
  clear b1
  go_wp2_with fail
  go_loopw [6, 7, 8, 9, 10] (fun v6 v7 v8 v9 i wr => ∃ k : Nat, k ≤ n ∧ i = .int .i64 k ∧ v6 = .bool ((xs.take k).any fun p => p.1 == a1) ∧ v7 = .bool ((xs.take k).any fun p => p.1 == a3) ∧ v8 = .bool ((xs.take k).any fun p => p.2 == a2) ∧ v9 = .bool ((xs.take k).any fun p => p.2 == a4) ∧ Four wr Z1.heap.size a1 a2 a3 a4 ∧ Below w.heap.size w wr) (fun _ _ _ _ i _ => n - (intOf i).toNat)
  case atStart => exact ⟨0, Nat.zero_le _, rfl, rfl, rfl, rfl, rfl, F4, b2⟩
  case round =>
    clear F4 b2
    obtain ⟨k, hk, rfl, rfl, rfl, rfl, rfl, J4, hbw⟩ := hrel
    generalize Z1.heap.size = B4 at *
    clear Z1
    obtain ⟨c0, c1, c2, c3, -, -, -, -, lt4⟩ := id J4
    by_cases hlt : k < n
    · obtain ⟨p, hp⟩ : ∃ p, xs[k]? = some p := ⟨_, List.getElem?_eq_getElem (by rw [HL.out]; exact hlt)⟩
      obtain ⟨d0, d1⟩ := HC.out k p hp
      have d0 := (hbw.cell (p := ⟨b, off + k * 2, none⟩) hb).trans d0
      have d1 := (hbw.cell (p := ⟨b, off + k * 2 + 1, none⟩) hb).trans d1
      have bl : b < wr.heap.size := Nat.lt_of_lt_of_le hb hbw.size
      have HI := Lib.hid (fun w => K3.out w p (List.mem_of_getElem? hp))
      have W0 := Lib.hid (any_take xs k p (fun p => p.1 == a1) hp)
      have W1 := Lib.hid (any_take xs k p (fun p => p.1 == a3) hp)
      have W2 := Lib.hid (any_take xs k p (fun p => p.2 == a2) hp)
      have W3 := Lib.hid (any_take xs k p (fun p => p.2 == a4) hp)
      generalize ((xs.take k).any fun p => p.1 == a1) = w0 at *
      generalize ((xs.take k).any fun p => p.1 == a3) = w1 at *
      generalize ((xs.take k).any fun p => p.2 == a2) = w2 at *
      generalize ((xs.take k).any fun p => p.2 == a4) = w3 at *
      clear hp
      go_wp2_with fail
      refine wp_region_bw wr.heap.size _ (Below.refl _ _) (by kernel_rfl) (by kernel_rfl) ?_
      repeat (go_big_quiet_step ((go_at_call 44; exact Calls.bw_of (by simp) (HI.out _))))
      refine wpQuiet_nil ?_
      intro y
      go_wp2_with fail
      cases w0
      · refine wp_region_bw wr.heap.size _ y.h (by kernel_rfl) (by kernel_rfl) ?_
        repeat (go_big_quiet_step (fail))
        refine wpQuiet_nil ?_
        intro y0
        go_wp2_with fail
        cases w1
        · refine wp_region_bw wr.heap.size _ y0.h (by kernel_rfl) (by kernel_rfl) ?_
          repeat (go_big_quiet_step (fail))
          refine wpQuiet_nil ?_
          intro y1
          go_wp2_with fail
          cases w2
          · refine wp_region_bw wr.heap.size _ y1.h (by kernel_rfl) (by kernel_rfl) ?_
            repeat (go_big_quiet_step (fail))
            refine wpQuiet_nil ?_
            intro y2
            go_wp2_with fail
            cases w3
            · refine wp_region_bw wr.heap.size _ y2.h (by kernel_rfl) (by kernel_rfl) ?_
              repeat (go_big_quiet_step (fail))
              refine wpQuiet_nil ?_
              intro y3
              go_wp2_with fail
              go_roundw
              case rel => exact ⟨k + 1, hlt, by go_num, by rw [W0.out]; simp, by rw [W1.out]; simp, by rw [W2.out]; simp, by rw [W3.out]; simp, J4.below y3.h J4.lt, hbw.trans (y3.h.mono hbw.size)⟩
              case measure => simp [intOf]; omega
            · refine wp_region_bw wr.heap.size _ y2.h (by kernel_rfl) (by kernel_rfl) ?_
              repeat (go_big_quiet_step (fail))
              refine wpQuiet_nil ?_
              intro y3
              go_wp2_with fail
              go_roundw
              case rel => exact ⟨k + 1, hlt, by go_num, by rw [W0.out]; simp, by rw [W1.out]; simp, by rw [W2.out]; simp, by rw [W3.out]; simp, J4.below y3.h J4.lt, hbw.trans (y3.h.mono hbw.size)⟩
              case measure => simp [intOf]; omega
          · refine wp_region_bw wr.heap.size _ y1.h (by kernel_rfl) (by kernel_rfl) ?_
            repeat (go_big_quiet_step (fail))
            refine wpQuiet_nil ?_
            intro y2
            go_wp2_with fail
            cases w3
            · refine wp_region_bw wr.heap.size _ y2.h (by kernel_rfl) (by kernel_rfl) ?_
              repeat (go_big_quiet_step (fail))
              refine wpQuiet_nil ?_
              intro y3
              go_wp2_with fail
              go_roundw
              case rel => exact ⟨k + 1, hlt, by go_num, by rw [W0.out]; simp, by rw [W1.out]; simp, by rw [W2.out]; simp, by rw [W3.out]; simp, J4.below y3.h J4.lt, hbw.trans (y3.h.mono hbw.size)⟩
              case measure => simp [intOf]; omega
            · refine wp_region_bw wr.heap.size _ y2.h (by kernel_rfl) (by kernel_rfl) ?_
              repeat (go_big_quiet_step (fail))
              refine wpQuiet_nil ?_
              intro y3
              go_wp2_with fail
              go_roundw
              case rel => exact ⟨k + 1, hlt, by go_num, by rw [W0.out]; simp, by rw [W1.out]; simp, by rw [W2.out]; simp, by rw [W3.out]; simp, J4.below y3.h J4.lt, hbw.trans (y3.h.mono hbw.size)⟩
              case measure => simp [intOf]; omega
        · refine wp_region_bw wr.heap.size _ y0.h (by kernel_rfl) (by kernel_rfl) ?_
          repeat (go_big_quiet_step (fail))
          refine wpQuiet_nil ?_
          intro y1
          go_wp2_with fail
          cases w2
          · refine wp_region_bw wr.heap.size _ y1.h (by kernel_rfl) (by kernel_rfl) ?_
            repeat (go_big_quiet_step (fail))
            refine wpQuiet_nil ?_
            intro y2
            go_wp2_with fail
            cases w3
            · refine wp_region_bw wr.heap.size _ y2.h (by kernel_rfl) (by kernel_rfl) ?_
              repeat (go_big_quiet_step (fail))
              refine wpQuiet_nil ?_
              intro y3
              go_wp2_with fail
              go_roundw
              case rel => exact ⟨k + 1, hlt, by go_num, by rw [W0.out]; simp, by rw [W1.out]; simp, by rw [W2.out]; simp, by rw [W3.out]; simp, J4.below y3.h J4.lt, hbw.trans (y3.h.mono hbw.size)⟩
              case measure => simp [intOf]; omega
            · refine wp_region_bw wr.heap.size _ y2.h (by kernel_rfl) (by kernel_rfl) ?_
              repeat (go_big_quiet_step (fail))
              refine wpQuiet_nil ?_
              intro y3
              go_wp2_with fail
              go_roundw
              case rel => exact ⟨k + 1, hlt, by go_num, by rw [W0.out]; simp, by rw [W1.out]; simp, by rw [W2.out]; simp, by rw [W3.out]; simp, J4.below y3.h J4.lt, hbw.trans (y3.h.mono hbw.size)⟩
              case measure => simp [intOf]; omega
          · refine wp_region_bw wr.heap.size _ y1.h (by kernel_rfl) (by kernel_rfl) ?_
            repeat (go_big_quiet_step (fail))
            refine wpQuiet_nil ?_
            intro y2
            go_wp2_with fail
            cases w3
            · refine wp_region_bw wr.heap.size _ y2.h (by kernel_rfl) (by kernel_rfl) ?_
              repeat (go_big_quiet_step (fail))
              refine wpQuiet_nil ?_
              intro y3
              go_wp2_with fail
              go_roundw
              case rel => exact ⟨k + 1, hlt, by go_num, by rw [W0.out]; simp, by rw [W1.out]; simp, by rw [W2.out]; simp, by rw [W3.out]; simp, J4.below y3.h J4.lt, hbw.trans (y3.h.mono hbw.size)⟩
              case measure => simp [intOf]; omega
            · refine wp_region_bw wr.heap.size _ y2.h (by kernel_rfl) (by kernel_rfl) ?_
              repeat (go_big_quiet_step (fail))
              refine wpQuiet_nil ?_
              intro y3
              go_wp2_with fail
              go_roundw
              case rel => exact ⟨k + 1, hlt, by go_num, by rw [W0.out]; simp, by rw [W1.out]; simp, by rw [W2.out]; simp, by rw [W3.out]; simp, J4.below y3.h J4.lt, hbw.trans (y3.h.mono hbw.size)⟩
              case measure => simp [intOf]; omega
      · refine wp_region_bw wr.heap.size _ y.h (by kernel_rfl) (by kernel_rfl) ?_
        repeat (go_big_quiet_step (fail))
        refine wpQuiet_nil ?_
        intro y0
        go_wp2_with fail
        cases w1
        · refine wp_region_bw wr.heap.size _ y0.h (by kernel_rfl) (by kernel_rfl) ?_
          repeat (go_big_quiet_step (fail))
          refine wpQuiet_nil ?_
          intro y1
          go_wp2_with fail
          cases w2
          · refine wp_region_bw wr.heap.size _ y1.h (by kernel_rfl) (by kernel_rfl) ?_
            repeat (go_big_quiet_step (fail))
            refine wpQuiet_nil ?_
            intro y2
            go_wp2_with fail
            cases w3
            · refine wp_region_bw wr.heap.size _ y2.h (by kernel_rfl) (by kernel_rfl) ?_
              repeat (go_big_quiet_step (fail))
              refine wpQuiet_nil ?_
              intro y3
              go_wp2_with fail
              go_roundw
              case rel => exact ⟨k + 1, hlt, by go_num, by rw [W0.out]; simp, by rw [W1.out]; simp, by rw [W2.out]; simp, by rw [W3.out]; simp, J4.below y3.h J4.lt, hbw.trans (y3.h.mono hbw.size)⟩
              case measure => simp [intOf]; omega
            · refine wp_region_bw wr.heap.size _ y2.h (by kernel_rfl) (by kernel_rfl) ?_
              repeat (go_big_quiet_step (fail))
              refine wpQuiet_nil ?_
              intro y3
              go_wp2_with fail
              go_roundw
              case rel => exact ⟨k + 1, hlt, by go_num, by rw [W0.out]; simp, by rw [W1.out]; simp, by rw [W2.out]; simp, by rw [W3.out]; simp, J4.below y3.h J4.lt, hbw.trans (y3.h.mono hbw.size)⟩
              case measure => simp [intOf]; omega
          · refine wp_region_bw wr.heap.size _ y1.h (by kernel_rfl) (by kernel_rfl) ?_
            repeat (go_big_quiet_step (fail))
            refine wpQuiet_nil ?_
            intro y2
            go_wp2_with fail
            cases w3
            · refine wp_region_bw wr.heap.size _ y2.h (by kernel_rfl) (by kernel_rfl) ?_
              repeat (go_big_quiet_step (fail))
              refine wpQuiet_nil ?_
              intro y3
              go_wp2_with fail
              go_roundw
              case rel => exact ⟨k + 1, hlt, by go_num, by rw [W0.out]; simp, by rw [W1.out]; simp, by rw [W2.out]; simp, by rw [W3.out]; simp, J4.below y3.h J4.lt, hbw.trans (y3.h.mono hbw.size)⟩
              case measure => simp [intOf]; omega
            · refine wp_region_bw wr.heap.size _ y2.h (by kernel_rfl) (by kernel_rfl) ?_
              repeat (go_big_quiet_step (fail))
              refine wpQuiet_nil ?_
              intro y3
              go_wp2_with fail
              go_roundw
              case rel => exact ⟨k + 1, hlt, by go_num, by rw [W0.out]; simp, by rw [W1.out]; simp, by rw [W2.out]; simp, by rw [W3.out]; simp, J4.below y3.h J4.lt, hbw.trans (y3.h.mono hbw.size)⟩
              case measure => simp [intOf]; omega
        · refine wp_region_bw wr.heap.size _ y0.h (by kernel_rfl) (by kernel_rfl) ?_
          repeat (go_big_quiet_step (fail))
          refine wpQuiet_nil ?_
          intro y1
          go_wp2_with fail
          cases w2
          · refine wp_region_bw wr.heap.size _ y1.h (by kernel_rfl) (by kernel_rfl) ?_
            repeat (go_big_quiet_step (fail))
            refine wpQuiet_nil ?_
            intro y2
            go_wp2_with fail
            cases w3
            · refine wp_region_bw wr.heap.size _ y2.h (by kernel_rfl) (by kernel_rfl) ?_
              repeat (go_big_quiet_step (fail))
              refine wpQuiet_nil ?_
              intro y3
              go_wp2_with fail
              go_roundw
              case rel => exact ⟨k + 1, hlt, by go_num, by rw [W0.out]; simp, by rw [W1.out]; simp, by rw [W2.out]; simp, by rw [W3.out]; simp, J4.below y3.h J4.lt, hbw.trans (y3.h.mono hbw.size)⟩
              case measure => simp [intOf]; omega
            · refine wp_region_bw wr.heap.size _ y2.h (by kernel_rfl) (by kernel_rfl) ?_
              repeat (go_big_quiet_step (fail))
              refine wpQuiet_nil ?_
              intro y3
              go_wp2_with fail
              go_roundw
              case rel => exact ⟨k + 1, hlt, by go_num, by rw [W0.out]; simp, by rw [W1.out]; simp, by rw [W2.out]; simp, by rw [W3.out]; simp, J4.below y3.h J4.lt, hbw.trans (y3.h.mono hbw.size)⟩
              case measure => simp [intOf]; omega
          · refine wp_region_bw wr.heap.size _ y1.h (by kernel_rfl) (by kernel_rfl) ?_
            repeat (go_big_quiet_step (fail))
            refine wpQuiet_nil ?_
            intro y2
            go_wp2_with fail
            cases w3
            · refine wp_region_bw wr.heap.size _ y2.h (by kernel_rfl) (by kernel_rfl) ?_
              repeat (go_big_quiet_step (fail))
              refine wpQuiet_nil ?_
              intro y3
              go_wp2_with fail
              go_roundw
              case rel => exact ⟨k + 1, hlt, by go_num, by rw [W0.out]; simp, by rw [W1.out]; simp, by rw [W2.out]; simp, by rw [W3.out]; simp, J4.below y3.h J4.lt, hbw.trans (y3.h.mono hbw.size)⟩
              case measure => simp [intOf]; omega
            · refine wp_region_bw wr.heap.size _ y2.h (by kernel_rfl) (by kernel_rfl) ?_
              repeat (go_big_quiet_step (fail))
              refine wpQuiet_nil ?_
              intro y3
              go_wp2_with fail
              go_roundw
              case rel => exact ⟨k + 1, hlt, by go_num, by rw [W0.out]; simp, by rw [W1.out]; simp, by rw [W2.out]; simp, by rw [W3.out]; simp, J4.below y3.h J4.lt, hbw.trans (y3.h.mono hbw.size)⟩
              case measure => simp [intOf]; omega
    · obtain rfl : k = n := by omega
      have e : xs.take k = xs := List.take_of_length_le (by rw [HL.out]; exact Nat.le_refl _)
      obtain ⟨t1, t2, t3, t4⟩ := S.out
      rw [e, t1, t2, t3, t4]
      clear e t1 t2 t3 t4
      obtain ⟨b', off', e', hb', hnews⟩ := (HP.out.up hbw).flat hn
      injection e' with e'
      injection e' with e1 e2
      subst e1 e2
      go_wp2_with (at_builtin; refine wpList_append_lies _ rfl _ _ 30 (by rfl) wr.heap.size 24 i0 (.agg #[.int .i16 0, .int .i16 0]) 2 4 Try.underlying30 hi hz0 hz1 hz2 rfl (by decide) (.slice none 0 0) 0 [] (by rfl) ⟨rfl, .inl ⟨rfl, rfl⟩⟩ ⟨b, off, none⟩ k c (flat xs) (by rfl) ((flat_length xs).trans (by rw [HL.out])) hnews (flat_one xs) hn (by unfold maxLen; omega) (by omega) (Nat.le_refl _) wr.heap.size rfl ?_; intro g1 cap1 w1 hown hgrow hat hlt1; rw [Nat.zero_add, List.nil_append] at hown; have hb1 := grown_below hgrow (fun _ h => by cases h) (Nat.le_refl _); clear c0 c1 c2 c3 lt4; obtain ⟨c0, c1, c2, c3, -, -, -, -, lt4⟩ := J4.below hb1 J4.lt)
      have eg : wr.heap.size ≤ g1 := Nat.le_of_eq (hat.resolve_left (by simp [Value.ownBlock])).symm
      refine (at_any _ _ _).mono ?_
      rintro e w2 ⟨rfl, z, rfl⟩
      have hown2 := own_below hown z.h
      have hb2 : Below wr.heap.size wr z.i := hb1.trans (z.h.mono hb1.size)
      clear hown hgrow hat hlt1 hb1 c0 c1 c2 c3 lt4
      generalize z.i = Z at *
      clear z w1
      go_wp2_with (at_builtin; refine wpList_append_lies _ rfl _ _ 30 (by rfl) wr.heap.size 24 i0 (.agg #[.int .i16 0, .int .i16 0]) 2 4 Try.underlying30 hi hz0 hz1 hz2 rfl (by decide) _ k (flat xs) (by rfl) (hown2.alloc _) ⟨Z.heap.size, 0, none⟩ 1 1 [.int .i16 a1, .int .i16 a4] (by rfl) rfl (World.news_of_block (heap_alloc_new Z _)) (two_one _ _) (by decide) (by unfold maxLen; omega) (by omega) (Nat.le_trans hb2.size (by simp)) (Z.heap.size + 1) (by simp) ?_; intro g3 cap3 w3 hown3 hgrow3 hat3 hlt3)
      have hb3 : Below wr.heap.size wr w3 := (hb2.alloc hb2.size _).trans (grown_below hgrow3 (fun q h => by simp [Value.ownBlock] at h; omega) (Nat.le_trans hb2.size (by simp)))
      have e5 : flat xs ++ [.int .i16 a1, .int .i16 a4] = flat (xs ++ [(a1, a4)]) := by rw [flat_append]; rfl
      rw [e5] at hown3
      obtain ⟨hp3, hc3⟩ := read_of_own hown3 (by omega) (by rw [List.length_append, HL.out]; rfl) (fun p hp => by
        rcases List.mem_append.1 hp with hp | hp
        · exact HB.out p hp
        · simp at hp; subst hp; exact ⟨m1, m2, m3, m4⟩)
      refine (K2.out _ g3 cap3 hp3 hc3).mono ?_
      rintro e w4 ⟨rfl, z4, rfl⟩
      have hb4 : Below wr.heap.size wr z4.i := hb3.trans (z4.h.mono hb3.size)
      obtain ⟨c0, c1, c2, c3, -, -, -, -, lt4⟩ := J4.below hb4 J4.lt
      have hb5 := hbw.trans (hb4.mono hbw.size)
      clear hown2 hb2 hown3 hgrow3 hat3 hlt3 hb3 hp3 hb4
      generalize z4.i = Z4 at *
      generalize Z.heap.size = BZ at *
      clear z4 w3 Z
      go_wp2_with fail
      have hb6 := hb5.alloc hb5.size (Obj.cells #[.int .i16 a1, .int .i16 a2, .int .i16 a3, .int .i16 a4] 33)
      refine (lives_any _).mono ?_
      rintro e w5 ⟨rfl, z5, rfl⟩
      go_wp2
      go_ret
      exact gives_of_eq rfl (hb6.trans (z5.h.mono hb6.size))

theorem holds_law (A : Option Addr) (n c : Nat) (xs : List (Int × Int)) (w : World) (h : PRd w w.heap.size A n xs) (hm : n ≤ 1048576) (hc : n ≤ c) :
    Calls Try.prog 19 #[.slice A n c] w (Gives (.bool true) w) := by
  rcases Nat.eq_zero_or_pos n with h0 | h0
  · subst h0
    exact holds_none A c w
  · obtain ⟨b, off, rfl, hb, hcell⟩ := h.2.2 h0
    have hne : xs ≠ [] := fun h1 => by have := h.1; rw [h1] at this; simp at this; omega
    obtain ⟨s1, s2, s3, s4⟩ := box_sides hne
    obtain ⟨r1, r2, r3, r4⟩ := box_more hne
    have bd : -32768 ≤ loX xs ∧ loX xs ≤ 32767 ∧ -32768 ≤ hiY xs ∧ hiY xs ≤ 32767 := by
      obtain ⟨p, hp, e1⟩ := List.mem_map.1 (lo_spec' _ (ne_map hne (·.1))).2
      obtain ⟨q, hq, e2⟩ := List.mem_map.1 (hi_spec' _ (ne_map hne (·.2))).2
      have b1 := h.2.1 p hp
      have b2 := h.2.1 q hq
      have f1 : p.1 = loX xs := e1
      have f2 : q.2 = hiY xs := e2
      omega
    refine holds_core b off n c xs _ _ _ _ w h h0 hm hc hb hcell (fun w g cap hp hcap => join_some _ n cap xs w hp h0 (by omega) hcap) (fun w g cap hp hcap => ?_) (fun w p hp => ?_) s1 s2 s3 s4 bd.1 bd.2.1 bd.2.2.1 bd.2.2.2
    · have := join_some _ (n + 1) cap _ w hp (by omega) (by omega) hcap
      rw [r1, r2, r3, r4] at this
      exact this
    · obtain ⟨q1, q2, q3, q4⟩ := box_has hne hp
      have := inside_any p.1 p.2 (loX xs) (loY xs) (hiX xs) (hiY xs) w
      have e : ins p.1 p.2 (loX xs) (loY xs) (hiX xs) (hiY xs) = true := by unfold ins; rw [decide_eq_true q1, decide_eq_true q2, decide_eq_true q3, decide_eq_true q4]; rfl
      rw [e] at this
      exact this

set_option maxRecDepth 100000 in
theorem holds_contract (H : Type) (enc : TypeId × Value → H) (W : World) (base : Nat) (args : Array Value) (ds gs : List (DataW H)) (before : List MemPlace)
    (hval : ∀ (j : Nat) t v, Try.f19.params[j]? = some t → args[j]? = some v → Value.okWide Try.prog W .any base t v)
    (hW : DataW.Whole enc Try.prog Try.f19.params.toList Rows.planeHoldsSpec.vars false W args.toList ds gs before) (hk : Rows.uptoSmall H (ds ++ gs) = true) :
    Calls Try.prog 19 args W fun e W' => ∃ v, e = .returned v ∧ Rows.planeHoldsSpec.post enc Try.prog Try.f19 false true false false W args v W' := by
  have hW' := hW
  obtain ⟨p, q, hA0, hV, rfl, hfz, hnd⟩ := hW
  have hA : DataW.TrodAll enc Try.prog W 0 (fun _ => true) true Try.f19.params.toList args.toList ds p := hA0
  rw [Try.params19] at hA hval
  obtain ⟨v0, d0, rfl, rfl, h0⟩ := trodAll_one hA
  obtain ⟨rfl, rfl⟩ := trodVars_none hV
  obtain ⟨A, n, c, xs, rfl, hc, hp, hd⟩ := open_pts (hval 0 30 _ rfl rfl) h0
  have hn : n ≤ 1048576 := by
    rcases hd with rfl | ⟨elems, spare, rfl, rfl⟩
    · decide
    · exact bulk_slice elems spare hk
  refine (holds_law A n c xs W hp hn hc).mono fun e W2 ⟨he, x, hx⟩ => ⟨_, he, ?_⟩
  exact law_post hW' rfl rfl rfl (by kernel_rfl) (hx ▸ x.h)

set_option maxRecDepth 100000 in
theorem holds_lifted (os : Os) (started : os.Started) (H : Type) (enc : TypeId × Value → H) (F : Stop.Interp) :
    ReturnsInHanded {} Try.checked os 19 .any ((Rows.OpenSpec.upto Rows.planeHoldsSpec).pre6 enc Try.prog Try.f19 Rows.planeHoldsUptoRow.domain false) (((Rows.OpenSpec.upto Rows.planeHoldsSpec).at F).post enc Try.prog Try.f19 false true false false) := by
  refine returnsInHanded_of_cond (C := Try.checked) (s := Rows.OpenSpec.upto Rows.planeHoldsSpec) (k := Rows.uptoSmall) rfl Try.own started (by kernel_rfl) Try.func19
    (OpenSpec.witness (enc := enc) (C := Try.checked) (s := Rows.OpenSpec.upto Rows.planeHoldsSpec) (k := Rows.uptoSmall) rfl false ⟨#[], #[.slice none 0 0], []⟩ 8 (by kernel_rfl) (by kernel_rfl) (by kernel_rfl)
      (x := ([.nil], [], [])) (by kernel_rfl) rfl (by kernel_rfl)) ?_
  intro W base args ds gs before hval hW _ hk _
  exact holds_contract H enc W base args ds gs before hval hW hk

theorem holds_holds : Rows.PlaneHoldsUptoSaid :=
  OpenClaim.holds_of_cond 19 Try.f19 rfl rfl rfl rfl rfl rfl rfl ⟨rfl, rfl, rfl, rfl, rfl⟩ rfl rfl rfl rfl rfl (by kernel_rfl) Try.func19 (by kernel_rfl)
    (of_decide_eq_true (by kernel_rfl)) (by unfold Func.isWrapper; rw [if_neg (of_decide_eq_false (by kernel_rfl))]; exact ⟨rfl, rfl⟩)
    (fun os started H enc _ F => holds_lifted os started H enc F)
end Go.Proofs.Ytilimgjmiijkiaa
