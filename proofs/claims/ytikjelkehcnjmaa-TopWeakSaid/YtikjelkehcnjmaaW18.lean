/- Top: sum and dual, walked. -/
import Derived.Test.YtikjelkehcnjmaaW17
namespace Go.Proofs.Ytikjelkehcnjmaa
open Go.RowKit
set_option linter.unusedVariables false
set_option linter.unusedSimpArgs false
theorem index70a (a b : Value) (u : World) : (Instr.index 70 (.agg #[a, b]) (.int .i64 0)).run Try.prog u = .ok a u := by kernel_rfl
theorem index70b (a b : Value) (u : World) : (Instr.index 70 (.agg #[a, b]) (.int .i64 1)).run Try.prog u = .ok b u := by kernel_rfl
theorem tot_mono {f : Nat → Int} {j : Nat} : ∀ {n : Nat}, (∀ i, i < n → 0 ≤ f i) → j ≤ n → tot f j ≤ tot f n
  | 0, _, h => by (have : j = 0 := by omega); subst this; exact Int.le_refl _
  | n + 1, h, hj => by
    by_cases e : j = n + 1
    · subst e; exact Int.le_refl _
    · have a := tot_mono (f := f) (j := j) (n := n) (fun i hi => h i (by omega)) (by omega)
      have b := h n (by omega)
      show _ ≤ tot f n + f n
      omega
def gtot (ys zs : List Int) : Int := tot (iy ys) ys.length + tot (iy zs) zs.length
def sumv (T : Int) : Value := if T ≤ 4611686018427387903 then .tuple #[.int .i64 T, .bool true] else .tuple #[.int .i64 0, .bool false]
section
variable {w : World} {rows cols : Int} {A : Option Addr} {n c : Nat} {A1 : Option Addr} {n1 c1 : Nat} {A2 : Option Addr} {n2 c2 : Nat} {A3 : Option Addr} {n3 c3 : Nat} {xs : List Ed} {ps : List Pr} {ys zs : List Int}
set_option maxRecDepth 20000 in
set_option maxHeartbeats 32000000 in
theorem sum_ok (hY : Rd iint 1 w w.heap.size A2 n2 ys) (hZ : Rd iint 1 w w.heap.size A3 n3 zs) (h2 : n2 ≤ 64) (h3 : n3 ≤ 64) (y0 : ∀ i, i < n2 → 0 ≤ iy ys i) (z0 : ∀ i, i < n3 → 0 ≤ iy zs i) :
    Calls Try.prog 24 #[.agg (clv rows cols A n c A1 n1 c1 A2 n2 c2 A3 n3 c3)] w (Gives (sumv (gtot ys zs)) w) := by
  have HY := Lib.hid hY
  have HZ := Lib.hid hZ
  have HYL := Lib.hid hY.len
  have HZL := Lib.hid hZ.len
  have HY0 := Lib.hid y0
  have HZ0 := Lib.hid z0
  clear hY hZ y0 z0
  have S0 := mem_zero w
  go_enter Try.func24, Try.ntmps24
  go_wp2_with (first
    | (refine wpList_boxnew rfl 59 _ (by rfl) _ (by rfl) (clv rows cols A n c A1 n1 c1 A2 n2 c2 A3 n3 c3) rfl S0 ?_; intro w1 bg S1; clear S0; have g4 := S1.cell 0 (b := bg) rfl (j := 4) (v := .slice A2 n2 c2) rfl; have g5 := S1.cell 0 (b := bg) rfl (j := 5) (v := .slice A3 n3 c3) rfl)
    | fail)
  clear g4 g5
  go_loopg [4, 16] 3 (fun gk v4 v16 wr => ((gk = 3 ∧ v16 = .int .i64 0 ∧ v4 = .int .i64 0) ∨ (gk = 2 ∧ v16 = .int .i64 1 ∧ v4 = .int .i64 (tot (iy ys) n2) ∧ tot (iy ys) n2 ≤ 4611686018427387903) ∨ (gk = 1 ∧ v16 = .int .i64 2 ∧ v4 = .int .i64 (tot (iy ys) n2 + tot (iy zs) n3) ∧ tot (iy ys) n2 + tot (iy zs) n3 ≤ 4611686018427387903)) ∧ Mem w wr [(bg, .cells (clv rows cols A n c A1 n1 c1 A2 n2 c2 A3 n3 c3) 59 (0, 0))])
  case atStart => exact ⟨.inl ⟨rfl, rfl, rfl⟩, S1⟩
  case round =>
    clear S1
    obtain ⟨hcase, S⟩ := hrel
    rcases hcase with ⟨hg, rfl, rfl⟩ | ⟨hg, rfl, rfl, hb⟩ | ⟨hg, rfl, rfl, hb⟩
    · have HGK := Lib.hid hg
      clear hg
      go_wp2_with (refine wpList_index rfl 70 _ _ (by rfl) _ _ _ (by rfl) (by rfl) (index70a (.slice A2 n2 c2) (.slice A3 n3 c3)) ?_)
      go_loopg [4, 21] n2 (fun gk v4 v21 wr => ∃ j : Nat, gk + j = n2 ∧ v21 = .int .i64 j ∧ v4 = .int .i64 (tot (iy ys) j) ∧ tot (iy ys) j ≤ 4611686018427387903 ∧ Mem w wr [(bg, .cells (clv rows cols A n c A1 n1 c1 A2 n2 c2 A3 n3 c3) 59 (0, 0))])
      case atStart => exact ⟨0, rfl, rfl, rfl, by show (0 : Int) ≤ _; omega, S⟩
      case round =>
        clear S
        obtain ⟨j, hj, rfl, rfl, hs, S⟩ := hrel
        have hs0 : 0 ≤ tot (iy ys) j := tot_nonneg fun i hi => HY0.out i (by omega)
        by_cases hjn : j < n2
        · have hx := iy_get (ys := ys) (i := j) (by rw [HYL.out]; exact hjn)
          obtain ⟨ab, ao, rfl, hab, q0⟩ := (HY.out.below S.below).iint hx
          have hy0 := HY0.out j hjn
          have hm := tot_mono (f := iy ys) (j := j + 1) (n := n2) HY0.out (by omega)
          have hm2 : tot (iy ys) j + iy ys j ≤ tot (iy ys) n2 := hm
          clear hx hab hm
          by_cases hc : 4611686018427387903 - (tot (iy ys) j) < iy ys j
          · go_wp2_with fail
            go_ret2
            refine gives_of_eq ?_ S.below
            unfold sumv gtot
            rw [HYL.out, HZL.out, if_neg (by
              have := tot_nonneg HY0.out
              have := tot_nonneg HZ0.out
              omega)]
            rfl
          · go_wp2_with fail
            go_roundg (gk - 1)
            case measure => omega
            case rel => exact ⟨j + 1, by omega, by go_num, rfl, by show (tot (iy ys) j + iy ys j) ≤ _; omega, S⟩
        · obtain rfl : j = n2 := by omega
          clear hj hjn
          go_wp2_with fail
          go_roundg 2
          case measure => have := HGK.out; omega
          case rel => exact ⟨.inr (.inl ⟨rfl, rfl, rfl, hs⟩), S⟩
    · have HGK := Lib.hid hg
      clear hg
      have hbase := tot_nonneg HY0.out
      go_wp2_with (refine wpList_index rfl 70 _ _ (by rfl) _ _ _ (by rfl) (by rfl) (index70b (.slice A2 n2 c2) (.slice A3 n3 c3)) ?_)
      go_loopg [4, 21] n3 (fun gk v4 v21 wr => ∃ j : Nat, gk + j = n3 ∧ v21 = .int .i64 j ∧ v4 = .int .i64 (tot (iy ys) n2 + tot (iy zs) j) ∧ tot (iy ys) n2 + tot (iy zs) j ≤ 4611686018427387903 ∧ Mem w wr [(bg, .cells (clv rows cols A n c A1 n1 c1 A2 n2 c2 A3 n3 c3) 59 (0, 0))])
      case atStart => exact ⟨0, rfl, rfl, (by show _ = Value.int .i64 (_ + 0); rw [Int.add_zero]), by show tot (iy ys) n2 + (0 : Int) ≤ _; omega, S⟩
      case round =>
        clear S
        obtain ⟨j, hj, rfl, rfl, hs, S⟩ := hrel
        have hs0 : 0 ≤ tot (iy zs) j := tot_nonneg fun i hi => HZ0.out i (by omega)
        by_cases hjn : j < n3
        · have hx := iy_get (ys := zs) (i := j) (by rw [HZL.out]; exact hjn)
          obtain ⟨ab, ao, rfl, hab, q0⟩ := (HZ.out.below S.below).iint hx
          have hy0 := HZ0.out j hjn
          have hm := tot_mono (f := iy zs) (j := j + 1) (n := n3) HZ0.out (by omega)
          have hm2 : tot (iy zs) j + iy zs j ≤ tot (iy zs) n3 := hm
          clear hx hab hm
          by_cases hc : 4611686018427387903 - (tot (iy ys) n2 + tot (iy zs) j) < iy zs j
          · go_wp2_with fail
            go_ret2
            refine gives_of_eq ?_ S.below
            unfold sumv gtot
            rw [HYL.out, HZL.out, if_neg (by
              have := tot_nonneg HY0.out
              have := tot_nonneg HZ0.out
              omega)]
            rfl
          · go_wp2_with fail
            go_roundg (gk - 1)
            case measure => omega
            case rel => exact ⟨j + 1, by omega, by go_num, (by show _ = Value.int .i64 (_ + (_ + _)); rw [Int.add_assoc]), by show tot (iy ys) n2 + (tot (iy zs) j + iy zs j) ≤ _; omega, S⟩
        · obtain rfl : j = n3 := by omega
          clear hj hjn
          go_wp2_with fail
          go_roundg 1
          case measure => have := HGK.out; omega
          case rel => exact ⟨.inr (.inr ⟨rfl, rfl, rfl, hs⟩), S⟩
    · clear hg
      go_wp2_with fail
      go_ret2
      exact gives_of_eq (by unfold sumv gtot; rw [HYL.out, HZL.out, if_pos hb]; rfl) S.below
def DualOk (m k : Nat) (xs : List Ed) (ys zs : List Int) : Prop := (∀ i, i < m → 0 ≤ iy ys i) ∧ (∀ i, i < k → 0 ≤ iy zs i) ∧ ∀ i, i < xs.length → (ed xs i).w - iy ys (ed xs i).r.toNat ≤ iy zs (ed xs i).c.toNat
noncomputable def duv (m k : Nat) (xs : List Ed) (ys zs : List Int) : Int := @ite _ (DualOk m k xs ys zs) (Classical.propDecidable _) 0 181
theorem duv_yes {m k : Nat} (h : DualOk m k xs ys zs) : duv m k xs ys zs = 0 := if_pos h
theorem duv_no {m k : Nat} (h : ¬ DualOk m k xs ys zs) : duv m k xs ys zs = 181 := if_neg h
set_option maxRecDepth 20000 in
set_option maxHeartbeats 32000000 in
theorem dual_ok {m k : Nat} (hR : Rd Ed.cells 3 w w.heap.size A n xs) (hG : Gr m k xs) (hY : Rd iint 1 w w.heap.size A2 m ys) (hZ : Rd iint 1 w w.heap.size A3 k zs) (yb : ∀ i, iy ys i ≤ 9223372036854775807) :
    Calls Try.prog 22 #[.agg (clv m k A n c A1 n1 c1 A2 m c2 A3 k c3)] w (Gives (.int .i64 (duv m k xs ys zs)) w) := by
  have m64 : m ≤ 64 := by have := hG.1; unfold Sz at this; omega
  have k64 : k ≤ 64 := by have := hG.1; unfold Sz at this; omega
  have n4 : n ≤ 4096 := by rw [← hR.len]; exact hG.len
  have HG := Lib.hid hG
  have HR := Lib.hid hR
  have HL := Lib.hid hR.len
  have HY := Lib.hid hY
  have HZ := Lib.hid hZ
  have HYL := Lib.hid hY.len
  have HZL := Lib.hid hZ.len
  have HYB := Lib.hid yb
  clear hR hG hY hZ yb
  have S0 := mem_zero w
  go_enter Try.func22, Try.ntmps22
  go_wp2_with (first
    | (refine wpList_boxnew rfl 59 _ (by rfl) _ (by rfl) (clv m k A n c A1 n1 c1 A2 m c2 A3 k c3) rfl S0 ?_; intro w1 bg S1; clear S0; have g4 := S1.cell 0 (b := bg) rfl (j := 4) (v := .slice A2 m c2) rfl; have g5 := S1.cell 0 (b := bg) rfl (j := 5) (v := .slice A3 k c3) rfl)
    | fail)
  clear g4 g5
  go_loopg [16] 3 (fun gk v16 wr => ((gk = 3 ∧ v16 = .int .i64 0) ∨ (gk = 2 ∧ v16 = .int .i64 1 ∧ ∀ i, i < m → 0 ≤ iy ys i) ∨ (gk = 1 ∧ v16 = .int .i64 2 ∧ (∀ i, i < m → 0 ≤ iy ys i) ∧ ∀ i, i < k → 0 ≤ iy zs i)) ∧ Mem w wr [(bg, .cells (clv m k A n c A1 n1 c1 A2 m c2 A3 k c3) 59 (0, 0))])
  case atStart => exact ⟨.inl ⟨rfl, rfl⟩, S1⟩
  case round =>
    clear S1
    obtain ⟨hcase, S⟩ := hrel
    rcases hcase with ⟨hg, rfl⟩ | ⟨hg, rfl, hb⟩ | ⟨hg, rfl, hb⟩
    · have HGK := Lib.hid hg
      clear hg
      go_wp2_with (refine wpList_index rfl 70 _ _ (by rfl) _ _ _ (by rfl) (by rfl) (index70a (.slice A2 m c2) (.slice A3 k c3)) ?_)
      go_loopg [21] m (fun gk v21 wr => ∃ j : Nat, gk + j = m ∧ v21 = .int .i64 j ∧ (∀ i, i < j → 0 ≤ iy ys i) ∧ Mem w wr [(bg, .cells (clv m k A n c A1 n1 c1 A2 m c2 A3 k c3) 59 (0, 0))])
      case atStart => exact ⟨0, rfl, rfl, fun i hi => absurd hi (Nat.not_lt_zero _), S⟩
      case round =>
        clear S
        obtain ⟨j, hj, rfl, hok, S⟩ := hrel
        have HO := Lib.hid hok
        clear hok
        by_cases hjn : j < m
        · have hx := iy_get (ys := ys) (i := j) (by rw [HYL.out]; exact hjn)
          obtain ⟨ab, ao, rfl, hab, q0⟩ := (HY.out.below S.below).iint hx
          clear hx hab
          by_cases hc : iy ys j < 0
          · go_wp2_with fail
            go_ret
            refine gives_of_eq ?_ S.below
            rw [duv_no fun h => by have := h.1 j hjn; omega]
            rfl
          · go_wp2_with fail
            go_roundg (gk - 1)
            case measure => omega
            case rel =>
              refine ⟨j + 1, by omega, by go_num, fun i hi => ?_, S⟩
              by_cases e : i = j
              · subst e; omega
              · exact HO.out i (by omega)
        · obtain rfl : j = m := by omega
          clear hj hjn
          go_wp2_with fail
          go_roundg 2
          case measure => have := HGK.out; omega
          case rel => exact ⟨.inr (.inl ⟨rfl, rfl, HO.out⟩), S⟩
    · have HGK := Lib.hid hg
      have HB := Lib.hid hb
      clear hg hb
      go_wp2_with (refine wpList_index rfl 70 _ _ (by rfl) _ _ _ (by rfl) (by rfl) (index70b (.slice A2 m c2) (.slice A3 k c3)) ?_)
      go_loopg [21] k (fun gk v21 wr => ∃ j : Nat, gk + j = k ∧ v21 = .int .i64 j ∧ (∀ i, i < j → 0 ≤ iy zs i) ∧ Mem w wr [(bg, .cells (clv m k A n c A1 n1 c1 A2 m c2 A3 k c3) 59 (0, 0))])
      case atStart => exact ⟨0, rfl, rfl, fun i hi => absurd hi (Nat.not_lt_zero _), S⟩
      case round =>
        clear S
        obtain ⟨j, hj, rfl, hok, S⟩ := hrel
        have HO := Lib.hid hok
        clear hok
        by_cases hjn : j < k
        · have hx := iy_get (ys := zs) (i := j) (by rw [HZL.out]; exact hjn)
          obtain ⟨ab, ao, rfl, hab, q0⟩ := (HZ.out.below S.below).iint hx
          clear hx hab
          by_cases hc : iy zs j < 0
          · go_wp2_with fail
            go_ret
            refine gives_of_eq ?_ S.below
            rw [duv_no fun h => by have := h.2.1 j hjn; omega]
            rfl
          · go_wp2_with fail
            go_roundg (gk - 1)
            case measure => omega
            case rel =>
              refine ⟨j + 1, by omega, by go_num, fun i hi => ?_, S⟩
              by_cases e : i = j
              · subst e; omega
              · exact HO.out i (by omega)
        · obtain rfl : j = k := by omega
          clear hj hjn
          go_wp2_with fail
          go_roundg 1
          case measure => have := HGK.out; omega
          case rel => exact ⟨.inr (.inr ⟨rfl, rfl, HB.out, HO.out⟩), S⟩
    · have HB := Lib.hid hb
      clear hg hb
      have g2 := S.cell 0 (b := bg) rfl (j := 2) (v := .slice A n c) rfl
      go_wp2_with fail
      clear g2
      go_loopg [33] n (fun gk v33 wr => ∃ j : Nat, gk + j = n ∧ v33 = .int .i64 j ∧ (∀ i, i < j → (ed xs i).w - iy ys (ed xs i).r.toNat ≤ iy zs (ed xs i).c.toNat) ∧ Mem w wr [(bg, .cells (clv m k A n c A1 n1 c1 A2 m c2 A3 k c3) 59 (0, 0))])
      case atStart => exact ⟨0, rfl, rfl, fun i hi => absurd hi (Nat.not_lt_zero _), S⟩
      case round =>
        clear S
        obtain ⟨j, hj, rfl, hok, S⟩ := hrel
        have HO := Lib.hid hok
        clear hok
        by_cases hjn : j < n
        · have HJ := Lib.hid hj
          have hin := (HG.out.2 j (by rw [HL.out]; exact hjn)).1
          have hx := ed_get (xs := xs) (i := j) (by rw [HL.out]; exact hjn)
          obtain ⟨ab, ao, rfl, hab, ra⟩ := (HR.out.below S.below).row hx
          clear hx hab hj
          obtain ⟨er, ec, ew, hp⟩ : ∃ er ec ew, ed xs j = ⟨er, ec, ew⟩ := ⟨_, _, _, rfl⟩
          rw [hp] at ra hin
          have HX := Lib.hid hp
          unfold InB at hin
          dsimp only at hin
          clear hp
          obtain ⟨r0, rfl⟩ : ∃ r0 : Nat, er = r0 := ⟨er.toNat, by omega⟩
          obtain ⟨c0, rfl⟩ : ∃ c0 : Nat, ec = c0 := ⟨ec.toNat, by omega⟩
          have hrm : r0 < m := by omega
          have hck : c0 < k := by omega
          go_upto_region 14 with (first
            | (refine wpList_loadmid_g (by rfl) 52 _ (by rfl) ab (ao + j * 3) (by rfl) _ _ ra Try.underlying52 rfl size52 ?_; clear ra)
            | (refine wpList_new rfl 52 (by rfl) #[.int .i64 0, .int .i64 0, .int .i64 0] 3 zero52 S ?_; intro w4 be S4; clear S)
            | (refine wpList_putrow rfl 52 _ _ (by rfl) be (by rfl) (Ed.cells ⟨r0, c0, ew⟩).toArray (by rfl) S4 1 (by rfl) size52 (by rfl) (Ed.one _) ?_; intro w5 S5; clear S4)
            | fail)
          try go_frame
          have x0 := S5.cell 1 (b := be) rfl (j := 0) (v := .int .i64 r0) rfl
          have x1 := S5.cell 1 (b := be) rfl (j := 1) (v := .int .i64 c0) rfl
          have x2 := S5.cell 1 (b := be) rfl (j := 2) (v := .int .i64 ew) rfl
          obtain ⟨yb_, yo, rfl, hyb, qy⟩ := (HY.out.below S5.below).iint (iy_get (ys := ys) (i := r0) (by rw [HYL.out]; exact hrm))
          obtain ⟨zb_, zo, rfl, hzb, qz⟩ := (HZ.out.below S5.below).iint (iy_get (ys := zs) (i := c0) (by rw [HZL.out]; exact hck))
          have g4 := S5.cell 0 (b := bg) rfl (j := 4) (v := .slice (some ⟨yb_, yo, none⟩) m c2) rfl
          have g5 := S5.cell 0 (b := bg) rfl (j := 5) (v := .slice (some ⟨zb_, zo, none⟩) k c3) rfl
          have k0 := S5.lt 0 (b := bg) rfl
          have k1 := S5.lt 1 (b := be) rfl
          have k2 : yb_ < w5.heap.size := Nat.lt_of_lt_of_le hyb S5.below.size
          have k3 : zb_ < w5.heap.size := Nat.lt_of_lt_of_le hzb S5.below.size
          have y0 := HB.out.1 r0 hrm
          have y1 := HYB.out r0
          have w1 := hin.2.2.2.2
          clear hyb hzb
          refine wp_region_bw w5.heap.size _ (Below.refl _ _) (by kernel_rfl) (by kernel_rfl) ?_
          repeat (go_big_quiet_step (fail))
          refine wpQuiet_nil ?_
          intro x
          have S6 := S5.up x.h
          clear S5 x0 x1 x2 qy qz g4 g5 k0 k1 k2 k3
          generalize x.i = w6 at *
          clear x w5
          by_cases hc : iy zs c0 < ew - iy ys r0
          · go_wp2_with fail
            go_ret
            refine gives_of_eq ?_ S6.below
            rw [duv_no fun h => by
              have := h.2.2 j (by rw [HL.out]; exact hjn)
              rw [HX.out] at this
              dsimp only at this
              rw [Int.toNat_natCast, Int.toNat_natCast] at this
              omega]
            rfl
          · go_wp2_with fail
            go_roundg (n - j - 1)
            case measure => have := HJ.out; omega
            case rel =>
              refine ⟨j + 1, by omega, by go_num, fun i hi => ?_, Mem.pre [_] S6⟩
              by_cases e : i = j
              · subst e; rw [HX.out]; dsimp only; rw [Int.toNat_natCast, Int.toNat_natCast]; omega
              · exact HO.out i (by omega)
        · obtain rfl : j = n := by omega
          clear hj hjn
          go_wp2_with fail
          go_ret
          exact gives_of_eq (by rw [duv_yes ⟨HB.out.1, HB.out.2, by rw [HL.out]; exact HO.out⟩]; rfl) S.below
end
end Go.Proofs.Ytikjelkehcnjmaa
