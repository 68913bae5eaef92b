/- Top: the example, walked. -/
import Derived.Test.YtikjelkehcnjmaaM12
namespace Go.Proofs.Ytikjelkehcnjmaa
open Go.RowKit
set_option linter.unusedVariables false
set_option linter.unusedSimpArgs false
theorem rd_block {α : Type} {cells : α → List Value} {size : Nat} (hsz : ∀ x, (cells x).length = size) {w : World} {b : Nat} {xs : List α} {t : TypeId} (h : w.heap[b]? = some (.cells (xs.flatMap cells).toArray t (0, 0))) : Rd cells size w w.heap.size (some ⟨b, 0, none⟩) xs.length xs := by
  refine ⟨rfl, fun _ => ⟨b, 0, rfl, lt_of_block h, fun i x hx j v hv => ?_⟩⟩
  rw [Nat.zero_add, cell_of_row w b _ _ _ _ h, List.getElem?_toArray]
  exact flat_at hsz xs i j x v hx hv
theorem built24c (a b : Int) (A : Option Addr) (n c : Nat) : Try.prog.built 24 [(0, .int .i64 a), (1, .int .i64 b), (2, .slice A n c)] = some (gv a b A n c) := by kernel_rfl
theorem built28c (A1 : Option Addr) (n1 c1 : Nat) (A2 : Option Addr) (n2 c2 : Nat) (A3 : Option Addr) (n3 c3 : Nat) : Try.prog.built 28 [(0, .slice A1 n1 c1), (1, .slice A2 n2 c2), (2, .slice A3 n3 c3)] = some (cv A1 n1 c1 A2 n2 c2 A3 n3 c3) := by kernel_rfl
theorem two_zero (i : Nat) : iy [0, 0] i ≤ 9223372036854775807 := by
  match i with
  | 0 => decide
  | 1 => decide
  | i + 2 => unfold iy; simp
theorem cv_one (A1 : Option Addr) (n1 c1 : Nat) (A2 : Option Addr) (n2 c2 : Nat) (A3 : Option Addr) (n3 c3 : Nat) : (cv A1 n1 c1 A2 n2 c2 A3 n3 c3).all (·.oneCell') = true := three_one _ _ _ rfl rfl rfl
set_option maxRecDepth 20000 in
set_option maxHeartbeats 32000000 in
theorem known_ok (w : World) : Calls Try.prog 6 #[] w (Gives (.bool true) w) := by
  have S0 := (mem_zero w).alloc (.cells (kx.flatMap Ed.cells).toArray 52)
  obtain ⟨bk, hbk⟩ : ∃ bk, bk = w.heap.size := ⟨_, rfl⟩
  have HBK := Lib.hid hbk
  clear hbk
  go_enter Try.func6, Try.ntmps6
  go_wp2_with (first
    | (refine wpList_build2 (by rfl) 24 [(0, .const (.int .i64 2)), (1, .const (.int .i64 1)), (2, .tmp 6)] (by rfl) [(0, .int .i64 2), (1, .int .i64 1), (2, .slice (some ⟨w.heap.size, 0, none⟩) 2 2)] (by rfl) _ (built24c _ _ _ _ _) ?_)
    | (refine wpList_new rfl 24 (by rfl) (gv 0 0 none 0 0) 3 zero24 S0 ?_; intro w1 bg S1; clear S0)
    | (refine wpList_putrow rfl 24 _ _ (by rfl) bg (by rfl) (gv 2 1 (some ⟨w.heap.size, 0, none⟩) 2 2) (by rfl) S1 1 (by rfl) (by exact size24) (by rfl) (gv_one _ _ _ _ _) ?_; intro w2 S2; clear S1)
    | (refine wpList_getrow rfl 24 _ (by rfl) bg (by rfl) S2 1 (by rfl) _ Try.underlying24 rfl (by exact size24) ?_)
    | fail)
  have hR2 : Rd Ed.cells 3 w2 w2.heap.size (some ⟨w.heap.size, 0, none⟩) 2 kx := rd_block (cells := Ed.cells) (size := 3) (xs := kx) (fun _ => rfl) (S2.at 0 rfl)
  refine (best_yes (m := 2) (k := 1) (c := 2) hR2 (by decide) kx_gr).mono ?_
  rintro e w3 ⟨f, Y, Z, A1, c1, b2, b3, rfl, hb, hP, hY, hZ, hM, hL⟩
  have S3 := S2.up hb
  obtain ⟨f0, f1, y0, y1, z0⟩ := kx_best hM hL
  have hbc := best_bc kx_gr hM hL
  have epl : pl f 2 = [⟨1, 0⟩] := by rw [pl_some f1, pl_none f0]; rfl
  have HBC := Lib.hid hbc
  have q0 := icell_of hY (j := 0) (by omega)
  have q1 := icell_of hY (j := 1) (by omega)
  have q2 := icell_of hZ (j := 0) (by omega)
  rw [y0] at q0
  rw [y1] at q1
  rw [z0] at q2
  obtain ⟨ab, ao, rfl, hab, ra⟩ := hP.row (i := 0) (x := ⟨1, 0⟩) (by rw [epl]; rfl)
  have p0 : w3.cell? ⟨ab, ao, none⟩ = some (.int .i64 1) := ra 0 _ rfl
  have p1 : w3.cell? ⟨ab, ao + 1, none⟩ = some (.int .i64 0) := ra 1 _ rfl
  have HPL := Lib.hid epl
  have HP := Lib.hid hP
  have HY := Lib.hid hY
  have HZ := Lib.hid hZ
  have k2 := lt_of_block hY
  have k3 := lt_of_block hZ
  have el : (pl f 2).length = 1 := by rw [epl]; rfl
  rw [el]
  have hP1 := hP
  rw [el] at hP1
  have HP1 := Lib.hid hP1
  clear f0 f1 y0 y1 z0 hbc epl hP hY hZ hM hL el hP1 S2 hR2 ra hb
  have HF := Lib.hid (fun (v : World) (hv : Below w3.heap.size w3 v) => (⟨(hv.cell (p := ⟨ab, ao, none⟩) hab).trans p0, (hv.cell (p := ⟨ab, ao + 1, none⟩) hab).trans p1, (hv.cell (p := ⟨b2, 0, none⟩) k2).trans q0, (hv.cell (p := ⟨b2, 1, none⟩) k2).trans q1, (hv.cell (p := ⟨b3, 0, none⟩) k3).trans q2⟩ : v.cell? ⟨ab, ao, none⟩ = some (.int .i64 1) ∧ v.cell? ⟨ab, ao + 1, none⟩ = some (.int .i64 0) ∧ v.cell? ⟨b2, 0, none⟩ = some (.int .i64 0) ∧ v.cell? ⟨b2, 1, none⟩ = some (.int .i64 5) ∧ v.cell? ⟨b3, 0, none⟩ = some (.int .i64 13)))
  clear p0 p1 q0 q1 q2
  have T0 := mem_zero w3
  go_upto_region 3 with (first
    | (refine wpList_new rfl 28 (by rfl) (cv none 0 0 none 0 0 none 0 0) 3 zero28 T0 ?_; intro w4 bc T1; clear T0)
    | (refine wpList_putrow rfl 28 _ _ (by rfl) bc (by rfl) (cv (some ⟨ab, ao, none⟩) 1 c1 (some ⟨b2, 0, none⟩) 2 2 (some ⟨b3, 0, none⟩) 1 1) (by rfl) T1 0 (by rfl) (by exact size28) (by rfl) (cv_one _ _ _ _ _ _ _ _ _) ?_; intro w5 T2; clear T1)
    | fail)
  have g0 := T2.cell 0 (b := bc) rfl (j := 0) (v := .slice (some ⟨ab, ao, none⟩) 1 c1) rfl
  have g1 := T2.cell 0 (b := bc) rfl (j := 1) (v := .slice (some ⟨b2, 0, none⟩) 2 2) rfl
  have g2 := T2.cell 0 (b := bc) rfl (j := 2) (v := .slice (some ⟨b3, 0, none⟩) 1 1) rfl
  obtain ⟨p0, p1, q0, q1, q2⟩ := HF.out _ T2.below
  have S5 := S3.up T2.below
  clear S3
  go_wp2_with (first
    | (refine wpList_getrow rfl 24 _ (by rfl) bg (by rfl) S5 1 (by rfl) _ Try.underlying24 rfl (by exact size24) ?_)
    | (refine wpList_getrow rfl 28 _ (by rfl) bc (by rfl) T2 0 (by rfl) _ Try.underlying28 rfl (by exact size28) ?_)
    | fail)
  have hR5 : Rd Ed.cells 3 w5 w5.heap.size (some ⟨w.heap.size, 0, none⟩) 2 kx := rd_block (cells := Ed.cells) (size := 3) (xs := kx) (fun _ => rfl) (S5.at 0 rfl)
  refine (certc_ok (w := w5) (rows := ((2 : Nat) : Int)) (cols := ((1 : Nat) : Int)) (m := 2) (k := 1) (xs := kx) (ps := pl f 2) (ys := fl Y 2) (zs := fl Z 1) (fun _ => ⟨rfl, rfl⟩) hR5 (by decide) ((HP1.out.below T2.below).up T2.below.size) (by decide) (((rd_iarr HY.out).below T2.below).up T2.below.size) (((rd_iarr HZ.out).below T2.below).up T2.below.size) HBC.out.yb).mono ?_
  rintro e w6 ⟨rfl, x, rfl⟩
  rw [HBC.out.ok]
  have S6 := S5.up x.h
  clear S5 T2 hR5 g0 g1 g2 p0 p1 q0 q1 q2
  generalize x.i = w7 at *
  clear x w5
  have U := (((mem_zero w7).alloc (.cells (kp.flatMap Pr.cells).toArray 50)).alloc (.cells (([0, 0] : List Int).flatMap iint).toArray 3)).alloc (.cells (([13] : List Int).flatMap iint).toArray 3)
  simp only [World.size_alloc] at U
  have HU := Lib.hid U
  clear U
  go_wp2_with (first
    | (refine wpList_loadrow_g (by rfl) 24 _ (by rfl) bg (by rfl) _ _ _ (S6.at 1 rfl) Try.underlying24 rfl (by exact size24) ?_)
    | (refine wpList_build2 (by rfl) 28 [(0, .tmp 69), (1, .tmp 70), (2, .tmp 71)] (by rfl) [(0, .slice (some ⟨w7.heap.size, 0, none⟩) 1 1), (1, .slice (some ⟨w7.heap.size + 1, 0, none⟩) 2 2), (2, .slice (some ⟨w7.heap.size + 1 + 1, 0, none⟩) 1 1)] (by rfl) _ (built28c _ _ _ _ _ _ _ _ _) ?_)
    | fail)
  have S8 := S6.up HU.out.below
  have hR8 := rd_block (cells := Ed.cells) (size := 3) (xs := kx) (fun _ => rfl) (S8.at 0 rfl)
  have hP8 := rd_block (cells := Pr.cells) (size := 2) (xs := kp) (fun _ => rfl) (HU.out.at 0 rfl)
  have hY8 := rd_block (cells := iint) (size := 1) (xs := [0, 0]) (fun _ => rfl) (HU.out.at 1 rfl)
  have hZ8 := rd_block (cells := iint) (size := 1) (xs := [13]) (fun _ => rfl) (HU.out.at 2 rfl)
  refine (certc_ok (rows := ((2 : Nat) : Int)) (cols := ((1 : Nat) : Int)) (m := 2) (k := 1) (xs := kx) (ps := kp) (ys := [0, 0]) (zs := [13]) (fun _ => ⟨rfl, rfl⟩) hR8 (by decide) hP8 (by decide) hY8 hZ8 two_zero).mono ?_
  rintro e w9 ⟨rfl, x, rfl⟩
  have eb : fst (cres ((2 : Nat) : Int) ((1 : Nat) : Int) 2 1 ([0, 0] : List Int).length ([13] : List Int).length kx kp [0, 0] [13]) 5 = 181 := kx_bad
  rw [eb]
  have S9 := S8.up x.h
  clear S8 hR8 hP8 hY8 hZ8 eb HU S6
  generalize x.i = w10 at *
  clear x
  go_wp2_with fail
  go_ret
  exact gives_of S9.below
end Go.Proofs.Ytikjelkehcnjmaa
