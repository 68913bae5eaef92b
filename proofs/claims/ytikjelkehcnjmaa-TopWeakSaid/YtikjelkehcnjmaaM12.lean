/- Top: what the best matching's certificate comes to; the example; any certificate. -/
import Derived.Test.YtikjelkehcnjmaaW22
namespace Go.Proofs.Ytikjelkehcnjmaa
open Go.RowKit
set_option linter.unusedVariables false
def fl (Y : Nat → Int) (m : Nat) : List Int := (List.range m).map Y
theorem fl_len (Y : Nat → Int) (m : Nat) : (fl Y m).length = m := by simp [fl]
theorem fl_iy {Y : Nat → Int} {m i : Nat} (h : i < m) : iy (fl Y m) i = Y i := by unfold iy fl; simp [h]
theorem fl_out {Y : Nat → Int} {m i : Nat} (h : ¬ i < m) : iy (fl Y m) i = 0 := by unfold iy fl; simp [h]
theorem rd_iarr {w : World} {b m : Nat} {Y : Nat → Int} {t : TypeId} (h : w.heap[b]? = some (.cells (iarr m Y) t (0, 0))) : Rd iint 1 w w.heap.size (some ⟨b, 0, none⟩) m (fl Y m) := by
  refine ⟨fl_len Y m, fun _ => ⟨b, 0, rfl, lt_of_block h, fun i x hx j v hv => ?_⟩⟩
  have hi : i < m := by have := (List.getElem?_eq_some_iff.1 hx).1; rw [fl_len] at this; exact this
  have ex : x = Y i := by
    have h1 := fl_iy (Y := Y) hi
    unfold iy at h1
    rw [hx] at h1
    exact h1
  subst ex
  match j, hv with
  | 0, hv =>
    injection hv with hv
    subst hv
    rw [Nat.zero_add, Nat.mul_one, Nat.add_zero]
    exact icell_of h hi
  | j + 1, hv => exact absurd hv (by simp [iint])
section
variable {m k : Nat} {xs : List Ed} {f : Nat → Option Nat} {Y Z : Nat → Int}
theorem gtot_fl (Y Z : Nat → Int) (m k : Nat) : gtot (fl Y m) (fl Z k) = tot Y m + tot Z k := by
  unfold gtot
  rw [fl_len, fl_len, tot_eq fun i hi => fl_iy hi, tot_eq fun i hi => fl_iy hi]
structure BC (m k : Nat) (xs : List Ed) (f : Nat → Option Nat) (Y Z : Nat → Int) : Prop where
  dual : DualOk m k xs (fl Y m) (fl Z k)
  tot : gtot (fl Y m) (fl Z k) = wor (wt xs) f m
  max : gtot (fl Y m) (fl Z k) ≤ 4611686018427387903
  yb : ∀ i, iy (fl Y m) i ≤ 9223372036854775807
  vd : Vd m k (wt xs) (pl f m) (pl f m).length
  sm : sm (wt xs) (pl f m) (pl f m).length = wor (wt xs) f m
  ok : fst (cres m k m k m k xs (pl f m) (fl Y m) (fl Z k)) 5 = 0
theorem best_bc (hG : Gr m k xs) (hM : Mat m k (wt xs) f) (hL : Lst m k (wt xs) f Y Z) : BC m k xs f Y Z := by
  have m64 : m ≤ 64 := by have := hG.1; unfold Sz at this; omega
  have k64 : k ≤ 64 := by have := hG.1; unfold Sz at this; omega
  have hp := pl_ok hM m (Nat.le_refl _)
  have hd : DualOk m k xs (fl Y m) (fl Z k) := by
    refine ⟨fun i hi => by rw [fl_iy hi]; exact hL.dual.y0 i hi, fun i hi => by rw [fl_iy hi]; exact hL.dual.z0 i hi, fun i hi => ?_⟩
    have b := (hG.2 i hi).1
    unfold InB at b
    rw [fl_iy (by omega), fl_iy (by omega)]
    have e := hG.edge (r := (ed xs i).r.toNat) (c := (ed xs i).c.toNat) hi ⟨by omega, by omega⟩
    have := hL.dual.le (ed xs i).r.toNat (ed xs i).c.toNat (by omega) (by omega)
    omega
  have ht : gtot (fl Y m) (fl Z k) = wor (wt xs) f m := by rw [gtot_fl, hL.comp.eq hM]
  have hmax : gtot (fl Y m) (fl Z k) ≤ 4611686018427387903 := by
    rw [ht, ← hp.2.2.2]
    have a := sm_bd hG.range (pl f m) (pl f m).length
    have b : ((pl f m).length : Int) * MAXW ≤ 64 * MAXW := Int.mul_le_mul_of_nonneg_right (by have := pl_len f m; omega) (by decide)
    unfold MAXW at a b
    omega
  have hyb : ∀ i, iy (fl Y m) i ≤ 9223372036854775807 := fun i => by
    by_cases h : i < m
    · rw [fl_iy h]
      have := hL.comp.yle hL.dual hM hG.range (by decide) h
      unfold MAXW at this
      omega
    · rw [fl_out h]; decide
  refine ⟨hd, ht, hmax, hyb, hp.1, hp.2.2.2, fst_iff.2 fun i hi => ?_⟩
  match i, hi with
  | 0, _ => exact chk_ok hG
  | 1, _ => exact pav_yes hp.1
  | 2, _ => exact if_pos ⟨rfl, rfl⟩
  | 3, _ => exact duv_yes hd
  | 4, _ => exact if_pos ⟨hmax, by rw [ht, hp.2.2.2]⟩
end
/-- whatever certificate is taken: its matching is worth what the best is -/
theorem cert_best {m k : Nat} {xs : List Ed} {f : Nat → Option Nat} {Y Z : Nat → Int} (hG : Gr m k xs) (hM : Mat m k (wt xs) f) (hL : Lst m k (wt xs) f Y Z) {n2 n3 : Nat} {ps : List Pr} {ys zs : List Int} (h2 : ys.length = n2) (h3 : zs.length = n3) (h : fst (cres m k m k n2 n3 xs ps ys zs) 5 = 0) :
    Vd m k (wt xs) ps ps.length ∧ sm (wt xs) ps ps.length = wor (wt xs) f m := by
  have hz := fst_iff.1 h
  have h1 : pav m k xs ps = 0 := hz 1 (by omega)
  have h2' : lnv m k n2 n3 = 0 := hz 2 (by omega)
  have h3' : duv m k xs ys zs = 0 := hz 3 (by omega)
  have h4' : gapv (gtot ys zs) (sm (wt xs) ps ps.length) = 0 := hz 4 (by omega)
  have hV : Vd m k (wt xs) ps ps.length := Classical.byContradiction fun x => by rw [pav_no x] at h1; omega
  have hD : DualOk m k xs ys zs := Classical.byContradiction fun x => by rw [duv_no x] at h3'; omega
  unfold lnv at h2'
  by_cases e : (n2 : Int) = m ∧ (n3 : Int) = k
  case neg => rw [if_neg e] at h2'; omega
  unfold gapv at h4'
  by_cases e2 : gtot ys zs ≤ 4611686018427387903 ∧ gtot ys zs = sm (wt xs) ps ps.length
  case neg => rw [if_neg e2] at h4'; omega
  refine ⟨hV, ?_⟩
  obtain ⟨hM2, hw2⟩ := hV.mat (fun r c => (hG.range r c).1)
  have hd2 : Dual m k (wt xs) (iy ys) (iy zs) := by
    refine ⟨hD.1, hD.2.1, fun r c hr hc => ?_⟩
    rcases hG.some r c with z | ⟨i, i1, i2, i3, i4⟩
    · rw [z]; have := hD.1 r hr; have := hD.2.1 c hc; omega
    · have := hD.2.2 i i1
      rw [i2, i3, Int.toNat_natCast, Int.toNat_natCast] at this
      omega
  have a := hd2.bound hM
  have b := hL.dual.bound hM2
  have c := hL.comp.eq hM
  have d : gtot ys zs = tot (iy ys) m + tot (iy zs) k := by unfold gtot; rw [h2, h3, show n2 = m by omega, show n3 = k by omega]
  omega
/-- no matching of the graph is worth more -/
theorem other_le {m k : Nat} {xs : List Ed} {f : Nat → Option Nat} {Y Z : Nat → Int} (hG : Gr m k xs) (hM : Mat m k (wt xs) f) (hL : Lst m k (wt xs) f Y Z) {ps : List Pr} (hV : Vd m k (wt xs) ps ps.length) : sm (wt xs) ps ps.length ≤ wor (wt xs) f m := by
  obtain ⟨hM2, hw2⟩ := hV.mat (fun r c => (hG.range r c).1)
  have b := hL.dual.bound hM2
  have c := hL.comp.eq hM
  omega
/-- the example -/
def kx : List Ed := [⟨0, 0, 13⟩, ⟨1, 0, 18⟩]
theorem kx_gr : Gr ((2 : Nat) : Int) ((1 : Nat) : Int) kx := by
  refine ⟨by unfold Sz; omega, fun i hi => ?_⟩
  match i, hi with
  | 0, _ =>
    show InB _ _ (⟨0, 0, 13⟩ : Ed) ∧ Aft E0 (⟨0, 0, 13⟩ : Ed)
    unfold InB Aft E0; simp
  | 1, _ =>
    show InB _ _ (⟨1, 0, 18⟩ : Ed) ∧ Aft (⟨0, 0, 13⟩ : Ed) (⟨1, 0, 18⟩ : Ed)
    unfold InB Aft; simp
theorem kx0 : wt kx 0 0 = 13 := rfl
theorem kx1 : wt kx 1 0 = 18 := rfl
theorem kx_best {f : Nat → Option Nat} {Y Z : Nat → Int} (hM : Mat 2 1 (wt kx) f) (hL : Lst 2 1 (wt kx) f Y Z) : f 0 = none ∧ f 1 = some 0 ∧ Y 0 = 0 ∧ Y 1 = 5 ∧ Z 0 = 13 := by
  have d0 := hL.dual.le 0 0 (by omega) (by omega)
  have d1 := hL.dual.le 1 0 (by omega) (by omega)
  have y0 := hL.dual.y0 0 (by omega)
  have y1 := hL.dual.y0 1 (by omega)
  have z0 := hL.dual.z0 0 (by omega)
  rw [kx0] at d0
  rw [kx1] at d1
  have f1 : f 1 = some 0 := by
    cases e : f 1 with
    | none =>
      have r := hL.comp.row 1 (by omega) e
      cases e0 : f 0 with
      | none =>
        have := hL.comp.col 0 (by omega) (fun r hr => by
          match r, hr with
          | 0, _ => rw [e0]; simp
          | 1, _ => rw [e]; simp)
        omega
      | some c =>
        have hc := hM.edge 0 c (by omega) e0
        have c0 : c = 0 := by omega
        subst c0
        have := hL.comp.tight 0 0 (by omega) e0
        rw [kx0] at this
        omega
    | some c =>
      have hc := hM.edge 1 c (by omega) e
      have c0 : c = 0 := by omega
      rw [c0]
  have f0 : f 0 = none := by
    cases e0 : f 0 with
    | none => rfl
    | some c =>
      have hc := hM.edge 0 c (by omega) e0
      have c0 : c = 0 := by omega
      subst c0
      have := hM.inj 0 1 0 (by omega) (by omega) e0 f1
      omega
  have t1 := hL.comp.tight 1 0 (by omega) f1
  rw [kx1] at t1
  have r0 := hL.comp.row 0 (by omega) f0
  have hd5 : Dual 2 1 (wt kx) (fun r => if r = 0 then 0 else 5) (fun _ => 13) := by
    refine ⟨fun r hr => ?_, fun c hc => by decide, fun r c hr hc => ?_⟩
    · by_cases z : r = 0
      · rw [if_pos z]; exact Int.le_refl _
      · rw [if_neg z]; decide
    · have : c = 0 := by omega
      subst this
      match r, hr with
      | 0, _ => rw [kx0]; decide
      | 1, _ => rw [kx1]; decide
  have hc5 : Comp 2 1 (wt kx) f (fun r => if r = 0 then 0 else 5) (fun _ => 13) := by
    refine ⟨fun r c hr e => ?_, fun r hr e => ?_, fun c hc h => ?_⟩
    · match r, hr with
      | 0, _ => rw [f0] at e; cases e
      | 1, _ =>
        rw [f1] at e
        injection e with e
        subst e
        rw [kx1]
        decide
    · match r, hr with
      | 0, _ => rfl
      | 1, _ => rw [f1] at e; cases e
    · have : c = 0 := by omega
      subst this
      exact absurd f1 (h 1 (by omega))
  have lz := hL.least _ _ hd5 hc5 0 (by omega)
  exact ⟨f0, f1, r0, by omega, by omega⟩
def kp : List Pr := [⟨0, 0⟩]
theorem kx_bad : fst (cres ((2 : Nat) : Int) ((1 : Nat) : Int) 2 1 2 1 kx kp [0, 0] [13]) 5 = 181 := by
  have hv : Vd 2 1 (wt kx) kp kp.length := fun i hi => by
    match i, hi with
    | 0, _ =>
      unfold OkP
      show (-1 : Int) < 0 ∧ (0 : Int) < ((2 : Nat) : Int) ∧ (0 : Int) ≤ 0 ∧ (0 : Int) < ((1 : Nat) : Int) ∧ false = false ∧ wt kx (0 : Int).toNat (0 : Int).toNat ≠ 0
      exact ⟨by decide, by decide, by decide, by decide, rfl, by rw [show wt kx (0 : Int).toNat (0 : Int).toNat = 13 from rfl]; decide⟩
  have hd : ¬ DualOk 2 1 kx [0, 0] [13] := fun h => by
    have := h.2.2 1 (by decide)
    have e1 : (ed kx 1).w = 18 := rfl
    have e2 : iy [0, 0] (ed kx 1).r.toNat = 0 := rfl
    have e3 : iy [13] (ed kx 1).c.toNat = 13 := rfl
    omega
  have e : cres ((2 : Nat) : Int) ((1 : Nat) : Int) 2 1 2 1 kx kp [0, 0] [13] 3 = 181 := duv_no hd
  have key : ∀ j, j < 3 → cres ((2 : Nat) : Int) ((1 : Nat) : Int) 2 1 2 1 kx kp [0, 0] [13] j = 0 := fun j hj => by
    match j, hj with
    | 0, _ => exact chk_ok kx_gr
    | 1, _ => exact pav_yes hv
    | 2, _ =>
      show lnv ((2 : Nat) : Int) ((1 : Nat) : Int) 2 1 = 0
      unfold lnv
      rw [if_pos ⟨rfl, rfl⟩]
  rw [fst_at (i := 3) key (by rw [e]; decide) (by omega), e]
end Go.Proofs.Ytikjelkehcnjmaa
