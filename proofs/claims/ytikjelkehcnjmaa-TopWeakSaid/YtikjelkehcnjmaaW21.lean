/- Top: cert.Pairs and cert.Bound, walked; round. -/
import Derived.Test.YtikjelkehcnjmaaW20
namespace Go.Proofs.Ytikjelkehcnjmaa
open Go.RowKit
set_option linter.unusedVariables false
set_option linter.unusedSimpArgs false
section
variable {w : World} {rows cols : Int} {m k : Nat} {A : Option Addr} {n c : Nat} {A1 : Option Addr} {n1 c1 : Nat} {A2 : Option Addr} {n2 c2 : Nat} {A3 : Option Addr} {n3 c3 : Nat} {xs : List Ed} {ps : List Pr} {ys zs : List Int}
theorem iy_nil (i : Nat) : iy [] i ≤ 9223372036854775807 := by unfold iy; simp
set_option maxRecDepth 20000 in
set_option maxHeartbeats 32000000 in
theorem certp_ok (hR : Rd Ed.cells 3 w w.heap.size A n xs) (hn : n ≤ 9223372036854775807) (hG : Gr m k xs) (hP : Rd Pr.cells 2 w w.heap.size A1 n1 ps) (hn1 : n1 ≤ 9223372036854775807) :
    Calls Try.prog 11 #[.agg (gv m k A n c), .slice A1 n1 c1] w (Gives (.int .i64 (pav m k xs ps)) w) := by
  have HG := Lib.hid hG
  have HR := Lib.hid hR
  have HP := Lib.hid hP
  clear hR hP hG
  have S0 := mem_zero w
  go_enter Try.func11, Try.ntmps11
  go_wp2_with (first
    | (refine wpList_boxnew rfl 24 _ (by rfl) _ (by rfl) (gv m k A n c) rfl S0 ?_; intro w1 bg S2; clear S0)
    | (refine wpList_getrow rfl 24 _ (by rfl) bg (by rfl) S2 0 (by rfl) _ Try.underlying24 rfl (by exact size24) ?_)
    | (refine wpList_build2 (by rfl) 28 [(0, .tmp 7)] (by rfl) [(0, .slice A1 n1 c1)] (by rfl) _ (built28a _ _ _) ?_)
    | (refine wpList_build2 (by rfl) 59 [(0, .tmp 6), (1, .tmp 8)] (by rfl) [(0, .agg (gv m k A n c)), (1, .agg (cv A1 n1 c1 none 0 0 none 0 0))] (by rfl) _ (built59 _ _ _ _ _ _ _ _ _ _ _ _ _ _) ?_)
    | (refine wpList_new rfl 59 (by rfl) _ 6 zero59 S2 ?_; intro w3 b3 S3; clear S2)
    | (refine wpList_putrow rfl 59 _ _ (by rfl) b3 (by rfl) (clv m k A n c A1 n1 c1 none 0 0 none 0 0) (by rfl) S3 1 (by rfl) (by exact size59) (by rfl) (clv_one _ _ _ _ _ _ _ _ _ _ _ _ _ _) ?_; intro w4 S4; clear S3)
    | (refine wpList_getrow rfl 59 _ (by rfl) b3 (by rfl) S4 1 (by rfl) _ Try.underlying59 rfl (by exact size59) ?_)
    | fail)
  have hb := S4.below
  have hR1 := rd_looks (cl := clv m k A n c A1 n1 c1 none 0 0 none 0 0) (fs := [19, 20]) (heap_last w4 (.cells ([19, 20].flatMap (lk (clv m k A n c A1 n1 c1 none 0 0 none 0 0))).toArray 61))
  have hb2 : Below w.heap.size w (w4.alloc (.cells ([19, 20].flatMap (lk (clv m k A n c A1 n1 c1 none 0 0 none 0 0))).toArray 61)) := hb.alloc hb.size _
  refine (first_ok (res := fun i => if i = 0 then 0 else pav m k xs ps) hR1 (by decide) (fun f hf => ?_) (fun i f hf hz u hu => ?_)).mono ?_
  · simp only [List.mem_cons, List.not_mem_nil, or_false] at hf
    rcases hf with rfl | rfl
    · exact cf19
    · exact cf20
  · have hu2 := hb2.trans (hu.mono hb2.size)
    match i, hf with
    | 0, hf =>
      injection hf with hf; subst hf
      have := graph_ok (A1 := A1) (n1 := n1) (c1 := c1) (A2 := none) (n2 := 0) (c2 := 0) (A3 := none) (n3 := 0) (c3 := 0) (c := c) ((HR.out.below hu2).up hu2.size) hn (rows := m) (cols := k)
      rw [chk_ok HG.out] at this
      exact this
    | 1, hf =>
      injection hf with hf; subst hf
      exact pairs_ok ((HR.out.below hu2).up hu2.size) HG.out ((HP.out.below hu2).up hu2.size) hn1
    | i + 2, hf => exact absurd hf (by simp)
  · rintro e w5 ⟨rfl, x, rfl⟩
    have hb3 := hb2.trans (x.h.mono hb2.size)
    generalize x.i = w6 at *
    clear x hR1 hb2 hb S4
    go_wp2_with fail
    go_ret
    exact gives_of_eq (by simp [fst]) hb3
set_option maxRecDepth 20000 in
set_option maxHeartbeats 32000000 in
theorem bound_ok (hR : Rd Ed.cells 3 w w.heap.size A n xs) (hn : n ≤ 9223372036854775807) (hG : Gr m k xs) (hY : Rd iint 1 w w.heap.size A2 m ys) (hZ : Rd iint 1 w w.heap.size A3 k zs) (yb : ∀ i, iy ys i ≤ 9223372036854775807) (hD : DualOk m k xs ys zs) (hT : gtot ys zs ≤ 4611686018427387903) :
    Calls Try.prog 10 #[.agg (gv m k A n c), .slice A2 m c2, .slice A3 k c3] w (Gives (.tuple #[.int .i64 (gtot ys zs), .int .i64 0]) w) := by
  have m64 : m ≤ 64 := by have := hG.1; unfold Sz at this; omega
  have k64 : k ≤ 64 := by have := hG.1; unfold Sz at this; omega
  have HG := Lib.hid hG
  have HR := Lib.hid hR
  have HY := Lib.hid hY
  have HZ := Lib.hid hZ
  have HYB := Lib.hid yb
  have HD := Lib.hid hD
  have HT := Lib.hid hT
  clear hR hG hY hZ yb hD hT
  have S0 := mem_zero w
  go_enter Try.func10, Try.ntmps10
  go_wp2_with (first
    | (refine wpList_boxnew rfl 24 _ (by rfl) _ (by rfl) (gv m k A n c) rfl S0 ?_; intro w1 bg S2; clear S0)
    | (refine wpList_getrow rfl 24 _ (by rfl) bg (by rfl) S2 0 (by rfl) _ Try.underlying24 rfl (by exact size24) ?_)
    | (refine wpList_build2 (by rfl) 28 [(1, .tmp 13), (2, .tmp 14)] (by rfl) [(1, .slice A2 m c2), (2, .slice A3 k c3)] (by rfl) _ (built28b _ _ _ _ _ _) ?_)
    | (refine wpList_build2 (by rfl) 59 [(0, .tmp 12), (1, .tmp 15)] (by rfl) [(0, .agg (gv m k A n c)), (1, .agg (cv none 0 0 A2 m c2 A3 k c3))] (by rfl) _ (built59 _ _ _ _ _ _ _ _ _ _ _ _ _ _) ?_)
    | (refine wpList_new rfl 59 (by rfl) _ 6 zero59 S2 ?_; intro w3 b3 S3; clear S2)
    | (refine wpList_putrow rfl 59 _ _ (by rfl) b3 (by rfl) (clv m k A n c none 0 0 A2 m c2 A3 k c3) (by rfl) S3 1 (by rfl) (by exact size59) (by rfl) (clv_one _ _ _ _ _ _ _ _ _ _ _ _ _ _) ?_; intro w4 S4; clear S3)
    | (refine wpList_getrow rfl 59 _ (by rfl) b3 (by rfl) S4 1 (by rfl) _ Try.underlying59 rfl (by exact size59) ?_)
    | fail)
  have hR1 := rd_looks (cl := clv m k A n c none 0 0 A2 m c2 A3 k c3) (fs := [19, 21, 22]) (heap_last w4 (.cells ([19, 21, 22].flatMap (lk (clv m k A n c none 0 0 A2 m c2 A3 k c3))).toArray 61))
  have S5 := S4.up ((Below.refl w4.heap.size w4).alloc (Nat.le_refl _) (.cells ([19, 21, 22].flatMap (lk (clv m k A n c none 0 0 A2 m c2 A3 k c3))).toArray 61))
  have hb2 := S5.below
  refine (first_ok (res := fun _ => 0) hR1 (by decide) (fun f hf => ?_) (fun i f hf hz u hu => ?_)).mono ?_
  · simp only [List.mem_cons, List.not_mem_nil, or_false] at hf
    rcases hf with rfl | rfl | rfl
    · exact cf19
    · exact cf21
    · exact cf22
  · have hu2 := hb2.trans (hu.mono hb2.size)
    match i, hf with
    | 0, hf =>
      injection hf with hf; subst hf
      have := graph_ok (A1 := none) (n1 := 0) (c1 := 0) (A2 := A2) (n2 := m) (c2 := c2) (A3 := A3) (n3 := k) (c3 := c3) (c := c) ((HR.out.below hu2).up hu2.size) hn (rows := m) (cols := k)
      rw [chk_ok HG.out] at this
      exact this
    | 1, hf =>
      injection hf with hf; subst hf
      have := lengths_ok (w := u) (rows := m) (cols := k) (A := A) (n := n) (c := c) (A1 := none) (n1 := 0) (c1 := 0) (A2 := A2) (n2 := m) (c2 := c2) (A3 := A3) (n3 := k) (c3 := c3)
      rw [show lnv m k m k = 0 from if_pos ⟨rfl, rfl⟩] at this
      exact this
    | 2, hf =>
      injection hf with hf; subst hf
      have := dual_ok (A1 := none) (n1 := 0) (c1 := 0) (c := c) (c2 := c2) (c3 := c3) ((HR.out.below hu2).up hu2.size) HG.out ((HY.out.below hu2).up hu2.size) ((HZ.out.below hu2).up hu2.size) HYB.out
      rw [duv_yes HD.out] at this
      exact this
    | i + 3, hf => exact absurd hf (by simp)
  · rintro e w5 ⟨rfl, x, rfl⟩
    have S6 := S5.up x.h
    generalize x.i = w6 at *
    clear x hR1 hb2 S4 S5
    rw [show fst (fun _ => (0 : Int)) ([19, 21, 22] : List Nat).length = 0 from rfl]
    go_wp2_with (refine wpList_getrow rfl 59 _ (by rfl) b3 (by rfl) S6 1 (by rfl) _ Try.underlying59 rfl (by exact size59) ?_)
    refine (sum_ok ((HY.out.below S6.below).up S6.below.size) ((HZ.out.below S6.below).up S6.below.size) m64 k64 HD.out.1 HD.out.2.1).mono ?_
    rintro e w7 ⟨rfl, x, rfl⟩
    have S7 := S6.up x.h
    generalize x.i = w8 at *
    clear x S6
    rw [show sumv (gtot ys zs) = .tuple #[.int .i64 (gtot ys zs), .bool true] from if_pos HT.out]
    go_wp2_with fail
    go_ret2
    exact gives_of S7.below
end
def rnd (a b : Int) : Int := a % b
set_option maxRecDepth 20000 in
set_option maxHeartbeats 32000000 in
theorem round_ok (w : World) (a : Int) (h1 : -9223372036854775808 ≤ a) (h2 : a ≤ 9223372036854775807) : Calls Try.prog 17 #[.int .i64 a, .int .i64 1099513724930] w (Keeps (.int .i64 (a % 1099513724930)) w) := by
  have hm := Int.emod_nonneg a (show (1099513724930 : Int) ≠ 0 by decide)
  have hl := Int.emod_lt_of_pos a (show (0 : Int) < 1099513724930 by decide)
  have ht : (a.tmod 1099513724930 = a % 1099513724930) ∨ (a.tmod 1099513724930 = a % 1099513724930 - 1099513724930 ∧ 0 < a % 1099513724930) := by
    have e := Int.tmod_eq_emod (a := a) (b := 1099513724930)
    by_cases p : 0 ≤ a ∨ (1099513724930 : Int) ∣ a
    · rw [if_pos p] at e; exact .inl (by omega)
    · rw [if_neg p] at e
      have e2 : ((Int.natAbs 1099513724930 : Nat) : Int) = 1099513724930 := rfl
      rw [e2] at e
      have e3 : ¬ a % 1099513724930 = 0 := fun z => p (.inr (Int.dvd_of_emod_eq_zero z))
      exact .inr ⟨e, by omega⟩
  generalize a % 1099513724930 = q at *
  rcases ht with ht | ⟨ht, hq⟩
  · have HT := Lib.hid ht
    have h3 : ¬ a.tmod 1099513724930 < 0 := by omega
    clear ht
    go_enter Try.func17, Try.ntmps17
    go_wp2_with fail
    go_ret
    exact keeps_eq (by show Value.int .i64 (a.tmod 1099513724930) = _; rw [HT.out])
  · have HT := Lib.hid ht
    have h3 : a.tmod 1099513724930 < 0 := by omega
    have h4 : -1099513724930 ≤ a.tmod 1099513724930 := by omega
    clear ht
    go_enter Try.func17, Try.ntmps17
    go_wp2_with fail
    go_ret
    exact keeps_eq (by show Value.int .i64 (a.tmod 1099513724930 + 1099513724930) = _; rw [HT.out]; congr 1; omega)
end Go.Proofs.Ytikjelkehcnjmaa
