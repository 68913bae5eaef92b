/- Top: first, Check, Pairs, Bound, walked. -/
import Derived.Test.YtikjelkehcnjmaaW19
namespace Go.Proofs.Ytikjelkehcnjmaa
open Go.RowKit
set_option linter.unusedVariables false
set_option linter.unusedSimpArgs false
def fst (res : Nat → Int) : Nat → Int
  | 0 => 0
  | n + 1 => if fst res n = 0 then res n else fst res n
theorem fst_zero {res : Nat → Int} : ∀ {n : Nat}, (∀ i, i < n → res i = 0) → fst res n = 0
  | 0, _ => rfl
  | n + 1, h => by
    show (if fst res n = 0 then res n else fst res n) = 0
    rw [if_pos (fst_zero fun i hi => h i (by omega))]
    exact h n (by omega)
theorem fst_at {res : Nat → Int} {i : Nat} (h : ∀ j, j < i → res j = 0) (hi : res i ≠ 0) : ∀ {n : Nat}, i < n → fst res n = res i
  | 0, h0 => by omega
  | n + 1, hn => by
    show (if fst res n = 0 then res n else fst res n) = _
    by_cases e : i = n
    · subst e; rw [if_pos (fst_zero h)]
    · have := fst_at h hi (n := n) (by omega)
      rw [this, if_neg hi]
theorem fst_iff {res : Nat → Int} : ∀ {n : Nat}, fst res n = 0 ↔ ∀ i, i < n → res i = 0
  | 0 => ⟨fun _ i hi => absurd hi (Nat.not_lt_zero _), fun _ => rfl⟩
  | n + 1 => by
    have ih := fst_iff (res := res) (n := n)
    show (if fst res n = 0 then res n else fst res n) = 0 ↔ _
    by_cases e : fst res n = 0
    · rw [if_pos e]
      refine ⟨fun h i hi => ?_, fun h => h n (by omega)⟩
      by_cases z : i = n
      · subst z; exact h
      · exact ih.1 e i (by omega)
    · rw [if_neg e]
      exact ⟨fun h => absurd h e, fun h => absurd (ih.2 fun i hi => h i (by omega)) e⟩
/-- a look at a claim, as a value -/
def lk (cl : Array Value) (f : Nat) : List Value := [.func (.func f) #[.agg cl] #[]]
set_option maxRecDepth 20000 in
set_option maxHeartbeats 32000000 in
theorem first_ok {w : World} {A : Option Addr} {len c : Nat} {cl : Array Value} {fs : List Nat} {res : Nat → Int} (hR : Rd (lk cl) 1 w w.heap.size A len fs) (hlen : len ≤ 64)
    (hcf : ∀ (f : Nat), f ∈ fs → ∀ (args : Array Value) (u : World), Sem.run Try.prog (callFunc f args) u = .ok (.enter f args) u)
    (hE : ∀ (i f : Nat), fs[i]? = some f → (∀ j, j < i → res j = 0) → ∀ u, Below w.heap.size w u → Calls Try.prog f #[.agg cl] u (Gives (.int .i64 (res i)) u)) :
    Calls Try.prog 18 #[.slice A len c] w (Gives (.int .i64 (fst res len)) w) := by
  have HR := Lib.hid hR
  have HL := Lib.hid hR.len
  have HCF := Lib.hid hcf
  have HE := Lib.hid hE
  clear hR hcf hE
  have hb0 := Below.refl w.heap.size w
  go_enter Try.func18, Try.ntmps18
  go_wp2_with fail
  go_loopg [8] len (fun gk v8 wr => ∃ i : Nat, gk + i = len ∧ v8 = .int .i64 i ∧ (∀ j, j < i → res j = 0) ∧ Below w.heap.size w wr)
  case atStart => exact ⟨0, rfl, rfl, fun j hj => absurd hj (Nat.not_lt_zero _), hb0⟩
  case round =>
    clear hb0
    obtain ⟨i, hi, rfl, hz, hb⟩ := hrel
    have HZ := Lib.hid hz
    clear hz
    by_cases hil : i < len
    · obtain ⟨f, hf⟩ : ∃ f, fs[i]? = some f := ⟨_, List.getElem?_eq_getElem (by rw [HL.out]; exact hil)⟩
      obtain ⟨ab, ao, rfl, hab, ra⟩ := (HR.out.below hb).row hf
      have q0 : wr.cell? ⟨ab, ao + i, none⟩ = some (.func (.func f) #[.agg cl] #[]) := by
        have := ra 0 _ rfl
        rwa [Nat.mul_one, Nat.add_zero] at this
      have hc := HCF.out f (List.mem_of_getElem? hf)
      have HF := Lib.hid hf
      clear ra hab hf
      go_wp2_with fail
      refine (HE.out i f HF.out HZ.out _ hb).mono ?_
      rintro e w2 ⟨rfl, x, rfl⟩
      have hb2 := hb.trans (x.h.mono hb.size)
      clear hb q0 hc
      generalize x.i = w3 at *
      clear x wr
      by_cases h0 : res i = 0
      · have e1 : (res i != 0) = false := by rw [h0]; rfl
        have d1 : decide (res i = 0) = true := decide_eq_true h0
        have H0 := Lib.hid h0
        clear h0
        go_wp2_with fail
        go_roundg (gk - 1)
        case measure => omega
        case rel =>
          refine ⟨i + 1, by omega, by go_num, fun j hj => ?_, hb2⟩
          by_cases z : j = i
          · subst z; exact H0.out
          · exact HZ.out j (by omega)
      · have e1 : (res i != 0) = true := by simp [h0]
        have d1 : decide (res i = 0) = false := decide_eq_false h0
        go_wp2_with fail
        go_ret
        exact gives_of_eq (by rw [fst_at HZ.out h0 hil]; rfl) hb2
    · obtain rfl : i = len := by omega
      clear hi hil
      go_wp2_with fail
      go_ret
      exact gives_of_eq (by rw [fst_zero HZ.out]; rfl) hb
theorem cf19 (args : Array Value) (u : World) : Sem.run Try.prog (callFunc 19 args) u = .ok (.enter 19 args) u := by kernel_rfl
theorem cf20 (args : Array Value) (u : World) : Sem.run Try.prog (callFunc 20 args) u = .ok (.enter 20 args) u := by kernel_rfl
theorem cf21 (args : Array Value) (u : World) : Sem.run Try.prog (callFunc 21 args) u = .ok (.enter 21 args) u := by kernel_rfl
theorem cf22 (args : Array Value) (u : World) : Sem.run Try.prog (callFunc 22 args) u = .ok (.enter 22 args) u := by kernel_rfl
theorem cf23 (args : Array Value) (u : World) : Sem.run Try.prog (callFunc 23 args) u = .ok (.enter 23 args) u := by kernel_rfl
theorem zero59 : (Try.prog.info? 59).map (fun i => (i.zero, i.size)) = some (some (.agg (clv 0 0 none 0 0 none 0 0 none 0 0 none 0 0)), 6) := by kernel_rfl
theorem built59 (rows cols : Int) (A : Option Addr) (n c : Nat) (A1 : Option Addr) (n1 c1 : Nat) (A2 : Option Addr) (n2 c2 : Nat) (A3 : Option Addr) (n3 c3 : Nat) : Try.prog.built 59 [(0, .agg (gv rows cols A n c)), (1, .agg (cv A1 n1 c1 A2 n2 c2 A3 n3 c3))] = some (clv rows cols A n c A1 n1 c1 A2 n2 c2 A3 n3 c3) := by kernel_rfl
theorem built28a (A1 : Option Addr) (n1 c1 : Nat) : Try.prog.built 28 [(0, .slice A1 n1 c1)] = some (cv A1 n1 c1 none 0 0 none 0 0) := by kernel_rfl
theorem built28b (A2 : Option Addr) (n2 c2 : Nat) (A3 : Option Addr) (n3 c3 : Nat) : Try.prog.built 28 [(1, .slice A2 n2 c2), (2, .slice A3 n3 c3)] = some (cv none 0 0 A2 n2 c2 A3 n3 c3) := by kernel_rfl
theorem clv_one (rows cols : Int) (A : Option Addr) (n c : Nat) (A1 : Option Addr) (n1 c1 : Nat) (A2 : Option Addr) (n2 c2 : Nat) (A3 : Option Addr) (n3 c3 : Nat) : (clv rows cols A n c A1 n1 c1 A2 n2 c2 A3 n3 c3).all (·.oneCell') = true := by
  unfold clv; rw [List.all_toArray]; rfl
theorem rd_looks {w : World} {b : Nat} {cl : Array Value} {fs : List Nat} {t : TypeId} (h : w.heap[b]? = some (.cells (fs.flatMap (lk cl)).toArray t (0, 0))) : Rd (lk cl) 1 w w.heap.size (some ⟨b, 0, none⟩) fs.length fs := by
  refine ⟨rfl, fun _ => ⟨b, 0, rfl, lt_of_block h, fun i x hx j v hv => ?_⟩⟩
  rw [Nat.zero_add, cell_of_row w b _ _ _ _ h, List.getElem?_toArray]
  exact flat_at (cells := lk cl) (size := 1) (fun _ => rfl) fs i j x v hx hv
section
variable {w : World} {rows cols : Int} {m k : Nat} {A : Option Addr} {n c : Nat} {A1 : Option Addr} {n1 c1 : Nat} {A2 : Option Addr} {n2 c2 : Nat} {A3 : Option Addr} {n3 c3 : Nat} {xs : List Ed} {ps : List Pr} {ys zs : List Int}
noncomputable def cres (rows cols : Int) (m k n2 n3 : Nat) (xs : List Ed) (ps : List Pr) (ys zs : List Int) : Nat → Int
  | 0 => chk rows cols xs
  | 1 => pav m k xs ps
  | 2 => lnv m k n2 n3
  | 3 => duv m k xs ys zs
  | _ => gapv (gtot ys zs) (sm (wt xs) ps ps.length)
/-- what a look tells, where those ahead of it found nothing -/
theorem looks_ok {rows cols : Int} {m k : Nat} (hmk : Gr rows cols xs → rows = m ∧ cols = k) (hR : Rd Ed.cells 3 w w.heap.size A n xs) (hn : n ≤ 9223372036854775807) (hP : Rd Pr.cells 2 w w.heap.size A1 n1 ps) (hn1 : n1 ≤ 9223372036854775807) (hY : Rd iint 1 w w.heap.size A2 n2 ys) (hZ : Rd iint 1 w w.heap.size A3 n3 zs) (yb : ∀ i, iy ys i ≤ 9223372036854775807) :
    ∀ (i f : Nat), [19, 20, 21, 22, 23][i]? = some f → (∀ j, j < i → cres rows cols m k n2 n3 xs ps ys zs j = 0) → Calls Try.prog f #[.agg (clv rows cols A n c A1 n1 c1 A2 n2 c2 A3 n3 c3)] w (Gives (.int .i64 (cres rows cols m k n2 n3 xs ps ys zs i)) w) := by
  intro i f hf hz
  have gr : 0 < i → Gr rows cols xs := fun h => Classical.byContradiction fun x => by
    have := hz 0 h
    rw [show cres rows cols m k n2 n3 xs ps ys zs 0 = chk rows cols xs from rfl, chk_no x] at this
    omega
  match i, hf with
  | 0, hf => injection hf with hf; subst hf; exact graph_ok hR hn
  | 1, hf =>
    injection hf with hf; subst hf
    have hG := gr (by omega)
    obtain ⟨rfl, rfl⟩ := hmk hG
    exact pairs_ok hR hG hP hn1
  | 2, hf =>
    injection hf with hf; subst hf
    obtain ⟨rfl, rfl⟩ := hmk (gr (by omega))
    exact lengths_ok
  | 3, hf =>
    injection hf with hf; subst hf
    have hG := gr (by omega)
    obtain ⟨rfl, rfl⟩ := hmk hG
    have h2 : lnv m k n2 n3 = 0 := hz 2 (by omega)
    unfold lnv at h2
    by_cases e : (n2 : Int) = m ∧ (n3 : Int) = k
    · obtain rfl : n2 = m := by omega
      obtain rfl : n3 = k := by omega
      exact dual_ok hR hG hY hZ yb
    · rw [if_neg e] at h2; omega
  | 4, hf =>
    injection hf with hf; subst hf
    have hG := gr (by omega)
    obtain ⟨rfl, rfl⟩ := hmk hG
    have h1 : pav m k xs ps = 0 := hz 1 (by omega)
    have h2 : lnv m k n2 n3 = 0 := hz 2 (by omega)
    have h3 : duv m k xs ys zs = 0 := hz 3 (by omega)
    have m64 : m ≤ 64 := by have := hG.1; unfold Sz at this; omega
    have k64 : k ≤ 64 := by have := hG.1; unfold Sz at this; omega
    unfold lnv at h2
    by_cases e : (n2 : Int) = m ∧ (n3 : Int) = k
    · obtain rfl : n2 = m := by omega
      obtain rfl : n3 = k := by omega
      have hV : Vd n2 n3 (wt xs) ps ps.length := Classical.byContradiction fun x => by rw [pav_no x] at h1; omega
      have hD : DualOk n2 n3 xs ys zs := Classical.byContradiction fun x => by rw [duv_no x] at h3; omega
      exact gap_ok hR hG hP hV hY hZ m64 k64 hD.1 hD.2.1
    · rw [if_neg e] at h2; omega
  | i + 5, hf => exact absurd hf (by simp)
set_option maxRecDepth 20000 in
set_option maxHeartbeats 32000000 in
theorem certc_ok {rows cols : Int} {m k : Nat} (hmk : Gr rows cols xs → rows = m ∧ cols = k) (hR : Rd Ed.cells 3 w w.heap.size A n xs) (hn : n ≤ 9223372036854775807) (hP : Rd Pr.cells 2 w w.heap.size A1 n1 ps) (hn1 : n1 ≤ 9223372036854775807) (hY : Rd iint 1 w w.heap.size A2 n2 ys) (hZ : Rd iint 1 w w.heap.size A3 n3 zs) (yb : ∀ i, iy ys i ≤ 9223372036854775807) :
    Calls Try.prog 9 #[.agg (gv rows cols A n c), .agg (cv A1 n1 c1 A2 n2 c2 A3 n3 c3)] w (Gives (.int .i64 (fst (cres rows cols m k n2 n3 xs ps ys zs) 5)) w) := by
  have HMK := Lib.hid hmk
  have HR := Lib.hid hR
  have HP := Lib.hid hP
  have HY := Lib.hid hY
  have HZ := Lib.hid hZ
  have HYB := Lib.hid yb
  clear hmk hR hP hY hZ yb
  have S0 := mem_zero w
  go_enter Try.func9, Try.ntmps9
  go_wp2_with (first
    | (refine wpList_boxnew rfl 24 _ (by rfl) _ (by rfl) (gv rows cols A n c) rfl S0 ?_; intro w1 bg S1; clear S0)
    | (refine wpList_boxnew rfl 28 _ (by rfl) _ (by rfl) (cv A1 n1 c1 A2 n2 c2 A3 n3 c3) rfl S1 ?_; intro w2 b2 S2; clear S1)
    | (refine wpList_getrow rfl 24 _ (by rfl) bg (by rfl) S2 0 (by rfl) _ Try.underlying24 rfl (by exact size24) ?_)
    | (refine wpList_getrow rfl 28 _ (by rfl) b2 (by rfl) S2 1 (by rfl) _ Try.underlying28 rfl (by exact size28) ?_)
    | (refine wpList_build2 (by rfl) 59 [(0, .tmp 6), (1, .tmp 7)] (by rfl) [(0, .agg (gv rows cols A n c)), (1, .agg (cv A1 n1 c1 A2 n2 c2 A3 n3 c3))] (by rfl) _ (built59 _ _ _ _ _ _ _ _ _ _ _ _ _ _) ?_)
    | (refine wpList_new rfl 59 (by rfl) _ 6 zero59 S2 ?_; intro w3 b3 S3; clear S2)
    | (refine wpList_putrow rfl 59 _ _ (by rfl) b3 (by rfl) (clv rows cols A n c A1 n1 c1 A2 n2 c2 A3 n3 c3) (by rfl) S3 2 (by rfl) (by exact size59) (by rfl) (clv_one _ _ _ _ _ _ _ _ _ _ _ _ _ _) ?_; intro w4 S4; clear S3)
    | (refine wpList_getrow rfl 59 _ (by rfl) b3 (by rfl) S4 2 (by rfl) _ Try.underlying59 rfl (by exact size59) ?_)
    | fail)
  have hb := S4.below
  have hR1 := rd_looks (cl := clv rows cols A n c A1 n1 c1 A2 n2 c2 A3 n3 c3) (fs := [19, 20, 21, 22, 23]) (heap_last w4 (.cells ([19, 20, 21, 22, 23].flatMap (lk (clv rows cols A n c A1 n1 c1 A2 n2 c2 A3 n3 c3))).toArray 61))
  have hb2 : Below w.heap.size w (w4.alloc (.cells ([19, 20, 21, 22, 23].flatMap (lk (clv rows cols A n c A1 n1 c1 A2 n2 c2 A3 n3 c3))).toArray 61)) := hb.alloc hb.size _
  refine (first_ok (res := cres rows cols m k n2 n3 xs ps ys zs) hR1 (by decide) (fun f hf => ?_) (fun i f hf hz u hu => ?_)).mono ?_
  · simp only [List.mem_cons, List.not_mem_nil, or_false] at hf
    rcases hf with rfl | rfl | rfl | rfl | rfl
    · exact cf19
    · exact cf20
    · exact cf21
    · exact cf22
    · exact cf23
  · have hu2 := hb2.trans (hu.mono hb2.size)
    exact looks_ok HMK.out ((HR.out.below hu2).up hu2.size) hn ((HP.out.below hu2).up hu2.size) hn1 ((HY.out.below hu2).up hu2.size) ((HZ.out.below hu2).up hu2.size) HYB.out i f hf hz
  · rintro e w5 ⟨rfl, x, rfl⟩
    have hb3 := hb2.trans (x.h.mono hb2.size)
    generalize x.i = w6 at *
    clear x hR1 hb2 hb S4
    go_wp2_with fail
    go_ret
    exact gives_of hb3
end
end Go.Proofs.Ytikjelkehcnjmaa
