/- Top: the looks of a certificate, walked: graph, lengths, sum, pairs, dual, gap. -/
import Derived.Test.YtikjelkehcnjmaaW16
namespace Go.Proofs.Ytikjelkehcnjmaa
open Go.RowKit
set_option linter.unusedVariables false
set_option linter.unusedSimpArgs false
theorem Rd.iint {w : World} {B n : Nat} {A : Option Addr} {xs : List Int} (h : Rd Ytikjelkehcnjmaa.iint 1 w B A n xs) {i : Nat} {x : Int} (hx : xs[i]? = some x) : ∃ b off, A = some ⟨b, off, none⟩ ∧ b < B ∧ w.cell? ⟨b, off + i, none⟩ = some (.int .i64 x) := by
  have hi : i < n := by rw [← h.len]; exact (List.getElem?_eq_some_iff.1 hx).1
  obtain ⟨b, off, e, hl, hc⟩ := h.at_ (by omega)
  have := hc i x hx 0 _ rfl
  rw [Nat.mul_one, Nat.add_zero] at this
  exact ⟨b, off, e, hl, this⟩
def iy (ys : List Int) (i : Nat) : Int := (ys[i]?).getD 0
theorem iy_get {ys : List Int} {i : Nat} (h : i < ys.length) : ys[i]? = some (iy ys i) := by
  unfold iy; rw [List.getElem?_eq_getElem h]; rfl
theorem size59 : (Try.prog.info? 59).map (·.size) = some 6 := by kernel_rfl
section
variable {w : World} {rows cols : Int} {A : Option Addr} {n c : Nat} {A1 : Option Addr} {n1 c1 : Nat} {A2 : Option Addr} {n2 c2 : Nat} {A3 : Option Addr} {n3 c3 : Nat} {xs : List Ed} {ps : List Pr} {ys zs : List Int}
theorem clv_gv {j : Nat} {v : Value} (h : (gv rows cols A n c).toList[j]? = some v) : (clv rows cols A n c A1 n1 c1 A2 n2 c2 A3 n3 c3)[j]? = some v := by
  match j, h with
  | 0, h => exact h
  | 1, h => exact h
  | 2, h => exact h
  | j + 3, h => exact absurd h (by simp [gv])
set_option maxRecDepth 20000 in
set_option maxHeartbeats 32000000 in
theorem graph_ok (hR : Rd Ed.cells 3 w w.heap.size A n xs) (hn : n ≤ 9223372036854775807) : Calls Try.prog 19 #[.agg (clv rows cols A n c A1 n1 c1 A2 n2 c2 A3 n3 c3)] w (Gives (.int .i64 (chk rows cols xs)) w) := by
  have HR := Lib.hid hR
  clear hR
  have S0 := mem_zero w
  go_enter Try.func19, Try.ntmps19
  go_wp2_with (first
    | (refine wpList_boxnew rfl 59 _ (by rfl) _ (by rfl) (clv rows cols A n c A1 n1 c1 A2 n2 c2 A3 n3 c3) rfl S0 ?_; intro w1 bg S1; clear S0; have ra : w1.rangeAt bg 0 (gv rows cols A n c).toList := fun j v h => by (rw [Nat.zero_add]; exact S1.cell 0 (b := bg) rfl (clv_gv h)))
    | (refine wpList_loadmid_g (by rfl) 24 _ (by rfl) bg 0 (by rfl) (gv rows cols A n c).toList _ ra Try.underlying24 rfl (by exact size24) ?_)
    | fail)
  refine (check_ok ((HR.out.below S1.below).up S1.below.size) hn).mono ?_
  rintro e w3 ⟨rfl, x, rfl⟩
  go_wp2_with fail
  go_ret
  exact gives_of (S1.below.trans (x.h.mono S1.below.size))
noncomputable def lnv (rows cols : Int) (n2 n3 : Nat) : Int := if (n2 : Int) = rows ∧ (n3 : Int) = cols then 0 else 1
set_option maxRecDepth 20000 in
set_option maxHeartbeats 32000000 in
theorem lengths_ok : Calls Try.prog 21 #[.agg (clv rows cols A n c A1 n1 c1 A2 n2 c2 A3 n3 c3)] w (Gives (.int .i64 (lnv rows cols n2 n3)) w) := by
  have S0 := mem_zero w
  go_enter Try.func21, Try.ntmps21
  go_upto_region 1 with (first
    | (refine wpList_boxnew rfl 59 _ (by rfl) _ (by rfl) (clv rows cols A n c A1 n1 c1 A2 n2 c2 A3 n3 c3) rfl S0 ?_; intro w1 bg S1; clear S0; have g0 := S1.cell 0 (b := bg) rfl (j := 0) (v := .int .i64 rows) rfl; have g1 := S1.cell 0 (b := bg) rfl (j := 1) (v := .int .i64 cols) rfl; have g4 := S1.cell 0 (b := bg) rfl (j := 4) (v := .slice A2 n2 c2) rfl; have g5 := S1.cell 0 (b := bg) rfl (j := 5) (v := .slice A3 n3 c3) rfl)
    | fail)
  by_cases h1 : (n2 : Int) = rows
  · have d1 : ((n2 : Int) != rows) = false := by rw [h1]; simp
    have f1 : decide ((n2 : Int) = rows) = true := decide_eq_true h1
    have H1 := Lib.hid h1
    clear h1
    by_cases h2 : (n3 : Int) = cols
    · have d2 : ((n3 : Int) != cols) = false := by rw [h2]; simp
      have f2 : decide ((n3 : Int) = cols) = true := decide_eq_true h2
      have H2 := Lib.hid h2
      clear h2
      go_wp2_with fail
      go_ret
      exact gives_of_eq (by unfold lnv; rw [if_pos ⟨H1.out, H2.out⟩]; rfl) S1.below
    · have d2 : ((n3 : Int) != cols) = true := by simp [h2]
      have f2 : decide ((n3 : Int) = cols) = false := decide_eq_false h2
      have H2 := Lib.hid h2
      clear h2
      go_wp2_with fail
      go_ret
      exact gives_of_eq (by unfold lnv; rw [if_neg fun h => H2.out h.2]; rfl) S1.below
  · have d1 : ((n2 : Int) != rows) = true := by simp [h1]
    have f1 : decide ((n2 : Int) = rows) = false := decide_eq_false h1
    have H1 := Lib.hid h1
    clear h1
    go_wp2_with fail
    go_ret
    exact gives_of_eq (by unfold lnv; rw [if_neg fun h => H1.out h.1]; rfl) S1.below
end
end Go.Proofs.Ytikjelkehcnjmaa
