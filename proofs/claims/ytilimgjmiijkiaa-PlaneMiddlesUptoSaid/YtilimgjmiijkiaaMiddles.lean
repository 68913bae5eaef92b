/- PlaneMiddles: the mean of any points, bit for bit, is the reference's, and the points stay. Condition: what comes in is of bulk at most 1048576. -/
import Derived.Test.YtilimgjmiijkiaaL2
import Derived.Test.YtilimgjmiijkiaaA19
import Derived.Test.YtilimgjmiijkiaaA14
namespace Go.Proofs.Ytilimgjmiijkiaa
open Go.ChangeShapes Go.WideShapes Go.ChangeAt Go.RowKit Go.Joins Ieee
attribute [local go_sem] BW.cell BW.frozen
set_option linter.unusedVariables false

set_option maxHeartbeats 2000000 in
theorem middles_core (A : Option Addr) (n c X Y : Nat) (xs : List (Int × Int)) (w : World) (h : PRd w w.heap.size A n xs) (hm : n ≤ 1048576) (hc : n ≤ c)
    (k1 : ∀ w g cap, PRd w w.heap.size (some ⟨g, 0, none⟩) n xs → n ≤ cap → Calls Try.prog 37 #[.slice (some ⟨g, 0, none⟩) n cap] w (Gives (.complex .f64 X Y) w))
    (k2 : ∀ w, PRd w w.heap.size A n xs → Calls Try.prog 38 #[.slice A n c] w (Gives (.tuple #[.float .f64 X, .float .f64 Y]) w)) :
    Calls Try.prog 9 #[.slice A n c] w (Gives (.bool true) w) := by
  have hbd := h.2.1
  have HB := Lib.hid hbd
  have K1 := Lib.hid k1
  have K2 := Lib.hid k2
  have HP := Lib.hid h
  clear hbd k1 k2 h
  go_enter Try.func9, Try.ntmps9
  go_wp2_with fail
  refine (lent_any A n c xs _ HP.out hm hc).mono ?_
  rintro e w' ⟨g, cap, rfl, hg, ⟨row⟩, hb⟩
  have hcap := row.hn
  go_wp2_with fail
  refine (K1.out _ g cap (row.read HB.out) (by omega)).mono ?_
  rintro e w1 ⟨rfl, z1, rfl⟩
  go_wp2_with fail
  have b1 : Below w.heap.size w z1.i := hb.trans (z1.h.mono hb.size)
  have p1 : PRd z1.i z1.i.heap.size A n xs := by
    have := (HP.out).below b1
    exact ⟨this.1, this.2.1, fun hn => by obtain ⟨b, off, e, hl, hcc⟩ := this.2.2 hn; exact ⟨b, off, e, Nat.lt_of_lt_of_le hl b1.size, hcc⟩⟩
  have row1 := row.below z1.h row.lt
  clear row hb
  generalize z1.i = Z1 at *
  clear z1
  refine (K2.out _ p1).mono ?_
  rintro e w2 ⟨rfl, z2, rfl⟩
  go_wp2_with fail
  refine (alike_same _ _).mono ?_
  rintro e w3 ⟨rfl, rfl⟩
  go_wp2_with fail
  refine (alike_same _ _).mono ?_
  rintro e w3 ⟨rfl, rfl⟩
  go_wp2_with fail
  have b2 : Below w.heap.size w z2.i := b1.trans (z2.h.mono b1.size)
  have p2 : PRd z2.i z2.i.heap.size A n xs := by
    have := p1.below z2.h
    exact ⟨this.1, this.2.1, fun hn => by obtain ⟨b, off, e, hl, hcc⟩ := this.2.2 hn; exact ⟨b, off, e, Nat.lt_of_lt_of_le hl z2.size, hcc⟩⟩
  have row2 := row1.below z2.h row1.lt
  clear row1 p1 b1
  generalize z2.i = Z2 at *
  clear z2
  refine (kept_any A g cap n c xs _ row2 p2 hm hc).mono ?_
  rintro e w2 ⟨rfl, z3, rfl⟩
  go_wp2_with fail
  refine (lives_any _).mono ?_
  rintro e w2 ⟨rfl, z4, rfl⟩
  go_wp2
  go_ret
  exact gives_of_eq rfl ((b2.trans (z3.h.mono b2.size)).trans (z4.h.mono (Nat.le_trans b2.size z3.size)))

theorem middles_law (A : Option Addr) (n c : Nat) (xs : List (Int × Int)) (w : World) (h : PRd w w.heap.size A n xs) (hm : n ≤ 1048576) (hc : n ≤ c) :
    Calls Try.prog 9 #[.slice A n c] w (Gives (.bool true) w) := by
  rcases Nat.eq_zero_or_pos n with h0 | h0
  · subst h0
    exact middles_core A 0 c 0 0 xs w h hm hc (fun w g cap _ _ => middle_none _ cap w) (fun w _ => rmiddle_none A c w)
  · exact middles_core A n c _ _ xs w h hm hc (fun w g cap hp hcap => middle_some _ n cap xs w hp h0 hm hcap) (fun w hp => rmiddle_some A n c xs w hp h0 hm hc)

set_option maxRecDepth 100000 in
theorem middles_contract (H : Type) (enc : TypeId × Value → H) (W : World) (base : Nat) (args : Array Value) (ds gs : List (DataW H)) (before : List MemPlace)
    (hval : ∀ (j : Nat) t v, Try.f9.params[j]? = some t → args[j]? = some v → Value.okWide Try.prog W .any base t v)
    (hW : DataW.Whole enc Try.prog Try.f9.params.toList Rows.planeMiddlesSpec.vars false W args.toList ds gs before) (hk : Rows.uptoSmall H (ds ++ gs) = true) :
    Calls Try.prog 9 args W fun e W' => ∃ v, e = .returned v ∧ Rows.planeMiddlesSpec.post enc Try.prog Try.f9 false true false false W args v W' := by
  have hW' := hW
  obtain ⟨p, q, hA0, hV, rfl, hfz, hnd⟩ := hW
  have hA : DataW.TrodAll enc Try.prog W 0 (fun _ => true) true Try.f9.params.toList args.toList ds p := hA0
  rw [Try.params9] at hA hval
  obtain ⟨v0, d0, rfl, rfl, h0⟩ := trodAll_one hA
  obtain ⟨rfl, rfl⟩ := trodVars_none hV
  obtain ⟨A, n, c, xs, rfl, hc, hp, hd⟩ := open_pts (hval 0 30 _ rfl rfl) h0
  have hn : n ≤ 1048576 := by
    rcases hd with rfl | ⟨elems, spare, rfl, rfl⟩
    · decide
    · exact bulk_slice elems spare hk
  refine (middles_law A n c xs W hp hn hc).mono fun e W2 ⟨he, x, hx⟩ => ⟨_, he, ?_⟩
  exact law_post hW' rfl rfl rfl (by kernel_rfl) (hx ▸ x.h)

set_option maxRecDepth 100000 in
theorem middles_lifted (os : Os) (started : os.Started) (H : Type) (enc : TypeId × Value → H) (F : Stop.Interp) :
    ReturnsInHanded {} Try.checked os 9 .any ((Rows.OpenSpec.upto Rows.planeMiddlesSpec).pre6 enc Try.prog Try.f9 Rows.planeMiddlesUptoRow.domain false) (((Rows.OpenSpec.upto Rows.planeMiddlesSpec).at F).post enc Try.prog Try.f9 false true false false) := by
  refine returnsInHanded_of_cond (C := Try.checked) (s := Rows.OpenSpec.upto Rows.planeMiddlesSpec) (k := Rows.uptoSmall) rfl Try.own started (by kernel_rfl) Try.func9
    (OpenSpec.witness (enc := enc) (C := Try.checked) (s := Rows.OpenSpec.upto Rows.planeMiddlesSpec) (k := Rows.uptoSmall) rfl false ⟨#[], #[.slice none 0 0], []⟩ 8 (by kernel_rfl) (by kernel_rfl) (by kernel_rfl)
      (x := ([.nil], [], [])) (by kernel_rfl) rfl (by kernel_rfl)) ?_
  intro W base args ds gs before hval hW _ hk _
  exact middles_contract H enc W base args ds gs before hval hW hk

theorem middles_holds : Rows.PlaneMiddlesUptoSaid :=
  OpenClaim.holds_of_cond 9 Try.f9 rfl rfl rfl rfl rfl rfl rfl ⟨rfl, rfl, rfl, rfl, rfl⟩ rfl rfl rfl rfl rfl (by kernel_rfl) Try.func9 (by kernel_rfl)
    (of_decide_eq_true (by kernel_rfl)) (by unfold Func.isWrapper; rw [if_neg (of_decide_eq_false (by kernel_rfl))]; exact ⟨rfl, rfl⟩)
    (fun os started H enc _ F => middles_lifted os started H enc F)
end Go.Proofs.Ytilimgjmiijkiaa
