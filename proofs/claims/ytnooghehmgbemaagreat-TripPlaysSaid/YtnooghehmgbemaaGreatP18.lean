/- TripPlays: Apart. -/
import Derived.Test.YtnooghehmgbemaaGreatP17
namespace Go.Proofs.YtnooghehmgbemaaGreat
open Go.RowKit
set_option linter.unusedVariables false
set_option linter.unusedSimpArgs false

theorem bookC_cn {w : World} {kb : Nat} {n : Int} {hv : Value} (hd : w.heap[kb]? = some (.cells (bookC n hv) 54 (0, 0))) {f : Nat} (hf : f < 26) (h0 : f ≠ 0) (h18 : f ≠ 18) : w.cell? ⟨kb, f, none⟩ = some (.slice none 0 0) := by
  rw [cell_of_row w kb _ _ _ _ hd]
  have : f = 1 ∨ f = 2 ∨ f = 3 ∨ f = 4 ∨ f = 5 ∨ f = 6 ∨ f = 7 ∨ f = 8 ∨ f = 9 ∨ f = 10 ∨ f = 11 ∨ f = 12 ∨ f = 13 ∨ f = 14 ∨ f = 15 ∨ f = 16 ∨ f = 17 ∨ f = 19 ∨ f = 20 ∨ f = 21 ∨ f = 22 ∨ f = 23 ∨ f = 24 ∨ f = 25 := by omega
  rcases this with rfl | rfl | rfl | rfl | rfl | rfl | rfl | rfl | rfl | rfl | rfl | rfl | rfl | rfl | rfl | rfl | rfl | rfl | rfl | rfl | rfl | rfl | rfl | rfl <;> rfl
set_option maxRecDepth 20000 in
set_option maxHeartbeats 32000000 in
theorem apart_ok {F : Nat → Prop} {w : World} {kb : Nat} {es : List HE} (hA : BookAt F w kb es) (hn : es.length ≤ 4000000) : Calls Tryz.prog 12 #[.pointer (some ⟨kb, 0, none⟩)] w fun e w' => e = .returned (.bool true) ∧ Lies F w w' := by
  obtain ⟨hF, hv, hB⟩ := hA
  have HF := Lib.hid hF
  have HB := Lib.hid hB.m
  have HD := Lib.hid hB.hd
  clear hB hF
  go_enter Tryz.func12, Tryz.ntmps12
  go_wp2_with fail
  refine (fill_1 kb _ (bookC_cn HD.out (by decide) (by decide) (by decide))).mono ?_
  rintro _ _ ⟨rfl, rfl⟩
  go_wp2_with fail
  refine (fill_2 kb _ (bookC_cn HD.out (by decide) (by decide) (by decide))).mono ?_
  rintro _ _ ⟨rfl, rfl⟩
  go_wp2_with fail
  refine (fill_3 kb _ (bookC_cn HD.out (by decide) (by decide) (by decide))).mono ?_
  rintro _ _ ⟨rfl, rfl⟩
  go_wp2_with fail
  refine (fill_4 kb _ (bookC_cn HD.out (by decide) (by decide) (by decide))).mono ?_
  rintro _ _ ⟨rfl, rfl⟩
  go_wp2_with fail
  refine (fill_5 kb _ (bookC_cn HD.out (by decide) (by decide) (by decide))).mono ?_
  rintro _ _ ⟨rfl, rfl⟩
  go_wp2_with fail
  refine (fill_6 kb _ (bookC_cn HD.out (by decide) (by decide) (by decide))).mono ?_
  rintro _ _ ⟨rfl, rfl⟩
  go_wp2_with fail
  refine (fill_7 kb _ (bookC_cn HD.out (by decide) (by decide) (by decide))).mono ?_
  rintro _ _ ⟨rfl, rfl⟩
  go_wp2_with fail
  refine (fill_8 kb _ (bookC_cn HD.out (by decide) (by decide) (by decide))).mono ?_
  rintro _ _ ⟨rfl, rfl⟩
  go_wp2_with fail
  refine (fill_9 kb _ (bookC_cn HD.out (by decide) (by decide) (by decide))).mono ?_
  rintro _ _ ⟨rfl, rfl⟩
  go_wp2_with fail
  refine (fill_10 kb _ (bookC_cn HD.out (by decide) (by decide) (by decide))).mono ?_
  rintro _ _ ⟨rfl, rfl⟩
  go_wp2_with fail
  refine (fill_11 kb _ (bookC_cn HD.out (by decide) (by decide) (by decide))).mono ?_
  rintro _ _ ⟨rfl, rfl⟩
  go_wp2_with fail
  refine (fill_12 kb _ (bookC_cn HD.out (by decide) (by decide) (by decide))).mono ?_
  rintro _ _ ⟨rfl, rfl⟩
  go_wp2_with fail
  refine (fill_13 kb _ (bookC_cn HD.out (by decide) (by decide) (by decide))).mono ?_
  rintro _ _ ⟨rfl, rfl⟩
  go_wp2_with fail
  refine (fill_14 kb _ (bookC_cn HD.out (by decide) (by decide) (by decide))).mono ?_
  rintro _ _ ⟨rfl, rfl⟩
  go_wp2_with fail
  refine (fill_15 kb _ (bookC_cn HD.out (by decide) (by decide) (by decide))).mono ?_
  rintro _ _ ⟨rfl, rfl⟩
  go_wp2_with fail
  refine (fill_16 kb _ (bookC_cn HD.out (by decide) (by decide) (by decide))).mono ?_
  rintro _ _ ⟨rfl, rfl⟩
  go_wp2_with fail
  refine (fill_17 kb _ (bookC_cn HD.out (by decide) (by decide) (by decide))).mono ?_
  rintro _ _ ⟨rfl, rfl⟩
  go_wp2_with fail
  refine (fill_ok HF.out HB.out hn).mono ?_
  clear HB HD
  rintro _ w1 ⟨rfl, B1, L1⟩
  have HD := Lib.hid B1.hd
  have HB := Lib.hid B1.g
  have HL := Lib.hid L1
  have HF1 := Lib.hid (fun j hj => Nat.lt_of_lt_of_le (HF.out j hj) L1.size)
  clear B1 L1 HF
  go_wp2_with fail
  refine (fill_19 kb _ (bookC_cn HD.out (by decide) (by decide) (by decide))).mono ?_
  rintro _ _ ⟨rfl, rfl⟩
  go_wp2_with fail
  refine (fill_20 kb _ (bookC_cn HD.out (by decide) (by decide) (by decide))).mono ?_
  rintro _ _ ⟨rfl, rfl⟩
  go_wp2_with fail
  refine (fill_21 kb _ (bookC_cn HD.out (by decide) (by decide) (by decide))).mono ?_
  rintro _ _ ⟨rfl, rfl⟩
  go_wp2_with fail
  refine (fill_22 kb _ (bookC_cn HD.out (by decide) (by decide) (by decide))).mono ?_
  rintro _ _ ⟨rfl, rfl⟩
  go_wp2_with fail
  refine (fill_23 kb _ (bookC_cn HD.out (by decide) (by decide) (by decide))).mono ?_
  rintro _ _ ⟨rfl, rfl⟩
  go_wp2_with fail
  refine (fill_24 kb _ (bookC_cn HD.out (by decide) (by decide) (by decide))).mono ?_
  rintro _ _ ⟨rfl, rfl⟩
  go_wp2_with fail
  refine (fill_25 kb _ (bookC_cn HD.out (by decide) (by decide) (by decide))).mono ?_
  rintro _ _ ⟨rfl, rfl⟩
  go_wp2_with fail
  refine (grow_1 kb _ (bookC_cn HD.out (by decide) (by decide) (by decide))).mono ?_
  rintro _ _ ⟨rfl, rfl⟩
  go_wp2_with fail
  refine (grow_2 kb _ (bookC_cn HD.out (by decide) (by decide) (by decide))).mono ?_
  rintro _ _ ⟨rfl, rfl⟩
  go_wp2_with fail
  refine (grow_3 kb _ (bookC_cn HD.out (by decide) (by decide) (by decide))).mono ?_
  rintro _ _ ⟨rfl, rfl⟩
  go_wp2_with fail
  refine (grow_4 kb _ (bookC_cn HD.out (by decide) (by decide) (by decide))).mono ?_
  rintro _ _ ⟨rfl, rfl⟩
  go_wp2_with fail
  refine (grow_5 kb _ (bookC_cn HD.out (by decide) (by decide) (by decide))).mono ?_
  rintro _ _ ⟨rfl, rfl⟩
  go_wp2_with fail
  refine (grow_6 kb _ (bookC_cn HD.out (by decide) (by decide) (by decide))).mono ?_
  rintro _ _ ⟨rfl, rfl⟩
  go_wp2_with fail
  refine (grow_7 kb _ (bookC_cn HD.out (by decide) (by decide) (by decide))).mono ?_
  rintro _ _ ⟨rfl, rfl⟩
  go_wp2_with fail
  refine (grow_8 kb _ (bookC_cn HD.out (by decide) (by decide) (by decide))).mono ?_
  rintro _ _ ⟨rfl, rfl⟩
  go_wp2_with fail
  refine (grow_9 kb _ (bookC_cn HD.out (by decide) (by decide) (by decide))).mono ?_
  rintro _ _ ⟨rfl, rfl⟩
  go_wp2_with fail
  refine (grow_10 kb _ (bookC_cn HD.out (by decide) (by decide) (by decide))).mono ?_
  rintro _ _ ⟨rfl, rfl⟩
  go_wp2_with fail
  refine (grow_11 kb _ (bookC_cn HD.out (by decide) (by decide) (by decide))).mono ?_
  rintro _ _ ⟨rfl, rfl⟩
  go_wp2_with fail
  refine (grow_12 kb _ (bookC_cn HD.out (by decide) (by decide) (by decide))).mono ?_
  rintro _ _ ⟨rfl, rfl⟩
  go_wp2_with fail
  refine (grow_13 kb _ (bookC_cn HD.out (by decide) (by decide) (by decide))).mono ?_
  rintro _ _ ⟨rfl, rfl⟩
  go_wp2_with fail
  refine (grow_14 kb _ (bookC_cn HD.out (by decide) (by decide) (by decide))).mono ?_
  rintro _ _ ⟨rfl, rfl⟩
  go_wp2_with fail
  refine (grow_15 kb _ (bookC_cn HD.out (by decide) (by decide) (by decide))).mono ?_
  rintro _ _ ⟨rfl, rfl⟩
  go_wp2_with fail
  refine (grow_16 kb _ (bookC_cn HD.out (by decide) (by decide) (by decide))).mono ?_
  rintro _ _ ⟨rfl, rfl⟩
  go_wp2_with fail
  refine (grow_17 kb _ (bookC_cn HD.out (by decide) (by decide) (by decide))).mono ?_
  rintro _ _ ⟨rfl, rfl⟩
  go_wp2_with fail
  refine (grow_ok HF1.out HB.out hn).mono ?_
  clear HB HD HF1
  rintro _ w2 ⟨rfl, F2, long, Pb, B2, L2, f1, f2⟩
  have HD := Lib.hid B2.hd
  have HB := Lib.hid B2
  have HL2 := Lib.hid (HL.out.trans L2)
  have HF2 := Lib.hid f1
  clear B2 L2 f1 f2 HL
  go_wp2_with fail
  refine (grow_19 kb _ (bookC_cn HD.out (by decide) (by decide) (by decide))).mono ?_
  rintro _ _ ⟨rfl, rfl⟩
  go_wp2_with fail
  refine (grow_20 kb _ (bookC_cn HD.out (by decide) (by decide) (by decide))).mono ?_
  rintro _ _ ⟨rfl, rfl⟩
  go_wp2_with fail
  refine (grow_21 kb _ (bookC_cn HD.out (by decide) (by decide) (by decide))).mono ?_
  rintro _ _ ⟨rfl, rfl⟩
  go_wp2_with fail
  refine (grow_22 kb _ (bookC_cn HD.out (by decide) (by decide) (by decide))).mono ?_
  rintro _ _ ⟨rfl, rfl⟩
  go_wp2_with fail
  refine (grow_23 kb _ (bookC_cn HD.out (by decide) (by decide) (by decide))).mono ?_
  rintro _ _ ⟨rfl, rfl⟩
  go_wp2_with fail
  refine (grow_24 kb _ (bookC_cn HD.out (by decide) (by decide) (by decide))).mono ?_
  rintro _ _ ⟨rfl, rfl⟩
  go_wp2_with fail
  refine (grow_25 kb _ (bookC_cn HD.out (by decide) (by decide) (by decide))).mono ?_
  rintro _ _ ⟨rfl, rfl⟩
  go_wp2_with fail
  refine (look_1 kb _ (bookC_cn HD.out (by decide) (by decide) (by decide))).mono ?_
  rintro _ _ ⟨rfl, rfl⟩
  go_wp2_with fail
  refine (look_2 kb _ (bookC_cn HD.out (by decide) (by decide) (by decide))).mono ?_
  rintro _ _ ⟨rfl, rfl⟩
  go_wp2_with fail
  refine (look_3 kb _ (bookC_cn HD.out (by decide) (by decide) (by decide))).mono ?_
  rintro _ _ ⟨rfl, rfl⟩
  go_wp2_with fail
  refine (look_4 kb _ (bookC_cn HD.out (by decide) (by decide) (by decide))).mono ?_
  rintro _ _ ⟨rfl, rfl⟩
  go_wp2_with fail
  refine (look_5 kb _ (bookC_cn HD.out (by decide) (by decide) (by decide))).mono ?_
  rintro _ _ ⟨rfl, rfl⟩
  go_wp2_with fail
  refine (look_6 kb _ (bookC_cn HD.out (by decide) (by decide) (by decide))).mono ?_
  rintro _ _ ⟨rfl, rfl⟩
  go_wp2_with fail
  refine (look_7 kb _ (bookC_cn HD.out (by decide) (by decide) (by decide))).mono ?_
  rintro _ _ ⟨rfl, rfl⟩
  go_wp2_with fail
  refine (look_8 kb _ (bookC_cn HD.out (by decide) (by decide) (by decide))).mono ?_
  rintro _ _ ⟨rfl, rfl⟩
  go_wp2_with fail
  refine (look_9 kb _ (bookC_cn HD.out (by decide) (by decide) (by decide))).mono ?_
  rintro _ _ ⟨rfl, rfl⟩
  go_wp2_with fail
  refine (look_10 kb _ (bookC_cn HD.out (by decide) (by decide) (by decide))).mono ?_
  rintro _ _ ⟨rfl, rfl⟩
  go_wp2_with fail
  refine (look_11 kb _ (bookC_cn HD.out (by decide) (by decide) (by decide))).mono ?_
  rintro _ _ ⟨rfl, rfl⟩
  go_wp2_with fail
  refine (look_12 kb _ (bookC_cn HD.out (by decide) (by decide) (by decide))).mono ?_
  rintro _ _ ⟨rfl, rfl⟩
  go_wp2_with fail
  refine (look_13 kb _ (bookC_cn HD.out (by decide) (by decide) (by decide))).mono ?_
  rintro _ _ ⟨rfl, rfl⟩
  go_wp2_with fail
  refine (look_14 kb _ (bookC_cn HD.out (by decide) (by decide) (by decide))).mono ?_
  rintro _ _ ⟨rfl, rfl⟩
  go_wp2_with fail
  refine (look_15 kb _ (bookC_cn HD.out (by decide) (by decide) (by decide))).mono ?_
  rintro _ _ ⟨rfl, rfl⟩
  go_wp2_with fail
  refine (look_16 kb _ (bookC_cn HD.out (by decide) (by decide) (by decide))).mono ?_
  rintro _ _ ⟨rfl, rfl⟩
  go_wp2_with fail
  refine (look_17 kb _ (bookC_cn HD.out (by decide) (by decide) (by decide))).mono ?_
  rintro _ _ ⟨rfl, rfl⟩
  go_wp2_with fail
  refine (look_ok HF2.out HB.out hn).mono ?_
  rintro _ w3 ⟨rfl, x, hx⟩
  have hb3 : Below w2.heap.size w2 w3 := hx ▸ x.h
  clear hx x
  have HD3 := Lib.hid ((HB.out.of_blocks hb3.size (fun k hk => hb3.block k (HF2.out k hk))).hd)
  have HL3 := Lib.hid (HL2.out.trans (Lies.of_below hb3))
  clear HD hb3 HL2
  have HD := HD3
  clear HD3
  go_wp2_with fail
  refine (look_19 kb _ (bookC_cn HD.out (by decide) (by decide) (by decide))).mono ?_
  rintro _ _ ⟨rfl, rfl⟩
  go_wp2_with fail
  refine (look_20 kb _ (bookC_cn HD.out (by decide) (by decide) (by decide))).mono ?_
  rintro _ _ ⟨rfl, rfl⟩
  go_wp2_with fail
  refine (look_21 kb _ (bookC_cn HD.out (by decide) (by decide) (by decide))).mono ?_
  rintro _ _ ⟨rfl, rfl⟩
  go_wp2_with fail
  refine (look_22 kb _ (bookC_cn HD.out (by decide) (by decide) (by decide))).mono ?_
  rintro _ _ ⟨rfl, rfl⟩
  go_wp2_with fail
  refine (look_23 kb _ (bookC_cn HD.out (by decide) (by decide) (by decide))).mono ?_
  rintro _ _ ⟨rfl, rfl⟩
  go_wp2_with fail
  refine (look_24 kb _ (bookC_cn HD.out (by decide) (by decide) (by decide))).mono ?_
  rintro _ _ ⟨rfl, rfl⟩
  go_wp2_with fail
  refine (look_25 kb _ (bookC_cn HD.out (by decide) (by decide) (by decide))).mono ?_
  rintro _ _ ⟨rfl, rfl⟩
  go_wp2_with fail
  go_ret
  exact ⟨rfl, HL3.out⟩
end Go.Proofs.YtnooghehmgbemaaGreat
