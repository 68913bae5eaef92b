/- Slab: the law's step, of a real slab and the reference's. -/
import Derived.Test.YtpnegofmebfcgaaR3
import Derived.Test.YtpnegofmebfcgaaO2
import Derived.Test.YtpnegofmebfcgaaUA
import Derived.Deep.RegionWith
namespace Go.Proofs.Ytpnegofmebfcgaa
open Go.RowKit Go.Shelf
attribute [local go_sem] BW.cell BW.frozen
set_option linter.unusedVariables false
set_option linter.unusedSimpArgs false

/-- what a step on both leaves alone -/
structure STurn (g bm o : Nat) (own : Option Nat) (w w' : World) : Prop where
  os : w'.os = w.os
  tape : w'.tape = w.tape
  output : w'.output = w.output
  size : w.heap.size ≤ w'.heap.size
  block : ∀ k, k < w.heap.size → k ≠ g → k ≠ bm → some k ≠ own → w'.heap[k]? = w.heap[k]?
  cell : ∀ j, j ≠ o + 1 → w'.cell? ⟨bm, j, none⟩ = w.cell? ⟨bm, j, none⟩
  frozen : ∀ j, w'.frozen? ⟨bm, j, none⟩ = w.frozen? ⟨bm, j, none⟩
theorem STurn.of_grown {g bm o : Nat} {own : Option Nat} {w w' : World} (h : w.grownBy w' (some g)) (hl : bm < w.heap.size) (hne : bm ≠ g) : STurn g bm o own w w' :=
  ⟨h.os, h.tape, h.output, h.size, fun k hk h1 _ _ => h.block k hk (fun e => h1 (by injection e)), fun j _ => h.cell_far ⟨bm, j, none⟩ hl (fun e => hne (by injection e)), fun j => h.frozen_far ⟨bm, j, none⟩ hl (fun e => hne (by injection e))⟩
theorem STurn.of_rturn {g bm o : Nat} {own : Option Nat} {w w' : World} (h : RTurn bm o own w w') : STurn g bm o own w w' :=
  ⟨h.os, h.tape, h.output, h.size, fun k hk _ h1 h2 => h.block k hk h1 h2, h.cell, h.frozen⟩
theorem STurn.trans {g bm o : Nat} {own : Option Nat} {A B C : World} (h : STurn g bm o own A B) (k : STurn g bm o own B C) : STurn g bm o own A C :=
  ⟨k.os.trans h.os, k.tape.trans h.tape, k.output.trans h.output, Nat.le_trans h.size k.size, fun i hi a b c => (k.block i (Nat.lt_of_lt_of_le hi h.size) a b c).trans (h.block i hi a b c), fun j hj => (k.cell j hj).trans (h.cell j hj), fun j => (k.frozen j).trans (h.frozen j)⟩
theorem STurn.of_below {g bm o : Nat} {own : Option Nat} {w w' : World} (h : Below w.heap.size w w') (hl : bm < w.heap.size) : STurn g bm o own w w' :=
  ⟨h.os, h.tape, h.output, h.size, fun k hk _ _ _ => h.block k hk, fun j _ => h.cell (p := ⟨bm, j, none⟩) hl, fun j => h.frozen (p := ⟨bm, j, none⟩) hl⟩
/-- a cell of a block that was made since is written -/
theorem STurn.setNew {g bm o : Nat} {own : Option Nat} {w u : World} (h : STurn g bm o own w u) {b : Nat} (hb : w.heap.size ≤ b) (hl : bm < w.heap.size) (i : Nat) (v : Value) : STurn g bm o own w (u.setCell ⟨b, i, none⟩ v) :=
  ⟨h.os, h.tape, h.output, by simpa using h.size, fun k hk a c d => (Below.heap_setCell u ⟨b, i, none⟩ v k (by show k ≠ b; omega)).trans (h.block k hk a c d),
    fun j hj => (World.cell?_setCell_other _ _ _ _ (fun e => by injection e with e _ _; omega)).trans (h.cell j hj), fun j => (World.frozen?_setCell _ _ _ _).trans (h.frozen j)⟩
theorem STurn.alloc {g bm o : Nat} {own : Option Nat} {w u : World} (h : STurn g bm o own w u) (hl : bm < w.heap.size) (ob : Obj) : STurn g bm o own w (u.alloc ob) :=
  h.trans (STurn.of_below ((Below.refl u.heap.size u).alloc (Nat.le_refl _) ob) (Nat.lt_of_lt_of_le hl h.size))
/-- a box of the call's own behind a step -/
theorem STurn.box {g bm o : Nat} {own : Option Nat} {w w' : World} (h : STurn g bm o own w w') {b : Nat} (hb : b < w.heap.size) (h1 : b ≠ g) (h2 : b ≠ bm) (h3 : some b ≠ own) (i : Nat) : w'.cell? ⟨b, i, none⟩ = w.cell? ⟨b, i, none⟩ ∧ w'.frozen? ⟨b, i, none⟩ = w.frozen? ⟨b, i, none⟩ :=
  ⟨World.cell?_of_block (h.block b hb h1 h2 h3), World.frozen?_of_block (h.block b hb h1 h2 h3)⟩
theorem RefAt.turn {B g : Nat} {w w' : World} {bm o : Nat} {v : Value} {n : Int} {all : List HV} (h : RefAt B w bm o v n all) (hg : w.grownBy w' (some g)) (h1 : g < B) (h2 : bm ≠ g) : RefAt B w' bm o v n all := by
  have hl := h.lm
  have hne : some (⟨bm, o, none⟩ : Addr).block ≠ some g := fun e => h2 (by injection e)
  refine ⟨(hg.cell_far ⟨bm, o, none⟩ hl hne).trans h.c0, (hg.cell_far ⟨bm, o + 1, none⟩ hl hne).trans h.c1, (hg.frozen_far ⟨bm, o + 1, none⟩ hl hne).trans h.f1, h.row.kept hg (.inr (own_ne h.row h1)), h.low.1, Nat.le_trans h.low.2 hg.size⟩
theorem SlabAt.rturn {T : TypeId} {w w' : World} {ps g bm o : Nat} {own : Option Nat} {l : List SL} (h : SlabAt T w ps g l) (hr : RTurn bm o own w w') (h1 : ps ≠ bm) (h2 : g ≠ bm) (h3 : some ps ≠ own) (h4 : some g ≠ own) : SlabAt T w' ps g l :=
  ⟨(World.cell?_of_block (hr.block ps h.pl h1 h3)).trans h.ptr, (hr.block g h.gl h2 h4).trans h.blk, h.ne⟩
theorem RefAt.setNew {B : Nat} {u : World} {bm o : Nat} {v : Value} {n : Int} {all : List HV} (h : RefAt B u bm o v n all) {b : Nat} (h1 : bm ≠ b) (h2 : some b ≠ v.ownBlock) (i : Nat) (z : Value) : RefAt B (u.setCell ⟨b, i, none⟩ z) bm o v n all := by
  have hc : ∀ j, (u.setCell ⟨b, i, none⟩ z).cell? ⟨bm, j, none⟩ = u.cell? ⟨bm, j, none⟩ := fun j => World.cell?_setCell_other _ _ _ _ (fun e => h1 (by injection e with e _ _; exact e.symm))
  refine ⟨(hc o).trans h.c0, (hc (o + 1)).trans h.c1, (World.frozen?_setCell _ _ _ _).trans h.f1, ownsRow_setCell_other h.row (fun e => h2 e.symm) z, h.low.1, by simpa using h.low.2⟩
theorem SlabAt.drew' {T : TypeId} {w : World} {ps g : Nat} {l : List SL} (h : SlabAt T w ps g l) : SlabAt T w.drew ps g l := ⟨h.ptr, h.blk, h.ne⟩
def hcell (p : Int × Int) : List Value := [.int .i64 p.1, .int .i64 p.2]

section
variable (B ps g bm o : Nat) (v : Value) (n : Int) (l : List SL) (all : List HV) (op : OpV) (A7 : Option Addr) (n7 c7 : Nat) (told : List (Int × Int)) (w : World)
  (I : RInv l all) (hn : n = l.length) (hl : l.length ≤ 4096) (h0 : 0 < l.length) (hm : all.length ≤ 1048576) (hS : SlabAt 111 w ps g l) (hR : RefAt B w bm o v n all) (hB : ps < B ∧ g < B ∧ ps ≠ bm ∧ g ≠ bm)
  (ht : Rd hcell 2 w w.heap.size A7 n7 told) (h7 : n7 ≤ 9223372036854775807)
include I hn hl h0 hm hS hR hB ht h7

set_option maxRecDepth 50000 in
set_option maxHeartbeats 32000000 in
theorem step_ok : Calls Try.prog 22 #[.pointer (some ⟨ps, 0, none⟩), .pointer (some ⟨bm, o, none⟩), .agg #[.int .i64 op.who, .int .i64 op.kind, .int .i64 op.n, .int .i64 op.hs, .int .i64 op.hg, .string op.x], .slice A7 n7 c7, .bool true] w (fun r w' => ∃ (hs hg : Int) (l' : List SL) (all' : List HV) (v' : Value), r = .returned (.tuple #[.agg #[.int .i64 hs, .int .i64 hg], .bool true]) ∧ RInv l' all' ∧ l'.length = l.length ∧ all'.length ≤ all.length + 1 ∧ SlabAt 111 w' ps g l' ∧ RefAt B w' bm o v' n all' ∧ STurn g bm o v.ownBlock w w' ∧ (v'.ownBlock = v.ownBlock ∨ ∃ k, v'.ownBlock = some k ∧ w.heap.size ≤ k)) := by
  have hk5 := rnd_in op.kind 5 (by decide)
  have K5 := round_ok op.kind 5
  obtain ⟨R, hR5⟩ : ∃ R : Nat, rnd op.kind 5 = R := ⟨(rnd op.kind 5).toNat, by omega⟩
  rw [hR5] at hk5 K5
  clear hR5
  have hlm := hR.lm
  have hpl := hS.pl
  have hgl := hS.gl
  have hone := Lib.hid hR.one
  have hgo := Lib.hid (own_ne hR.row hB.2.1)
  have hpo := Lib.hid (own_ne hR.row hB.1)
  have HT := Lib.hid ht
  have HI := Lib.hid I
  have HS := Lib.hid hS
  have HR := Lib.hid hR
  have HN := Lib.hid hn
  have hR4 : R < 5 := by omega
  clear ht I hS hR hn hk5
  obtain ⟨who, kind, nn, hs, hg, x⟩ := op
  simp only at K5 ⊢
  have K5 := Lib.hid K5
  have ow : ∀ k, w.heap.size ≤ k → some k ≠ v.ownBlock := fun k hk e => by have := (HR.out.row.lt k e.symm).2; omega
  have OW := Lib.hid ow
  clear ow
  by_cases hN : 0 ≤ nn ∧ nn < (n7 : Int)
  · obtain ⟨q, rfl⟩ : ∃ q : Nat, nn = q := ⟨nn.toNat, by omega⟩
    have hq : q < n7 := by omega
    obtain ⟨bb, off, rfl, hbb, hat⟩ := HT.out.at_ (by omega)
    obtain ⟨pp, hpp⟩ : ∃ pp, told[q]? = some pp := ⟨_, List.getElem?_eq_getElem (by rw [HT.out.len]; exact hq)⟩
    have a0 := hat q pp hpp 0 _ rfl; have a1 := hat q pp hpp 1 _ rfl
    rw [Nat.add_zero] at a0
    clear hat hN
    have t1 : decide (0 ≤ (q : Int)) = true := decide_eq_true (by omega)
    have t2 : decide ((q : Int) < (n7 : Int)) = true := decide_eq_true (by omega)
    have t3 : decide (q < n7) = true := decide_eq_true hq
    have bX : Below w.heap.size w (((w.alloc (.cells #[.int .i64 who, .int .i64 kind, .int .i64 (q : Int), .int .i64 hs, .int .i64 hg, .string x] 67)).alloc (.cells #[.int .i64 0, .int .i64 0] 32)).alloc (.cells #[.int .i64 hs, .int .i64 hg] 32)) := (((Below.refl _ w).alloc (Nat.le_refl _) _).alloc (by simp) _).alloc (by simp; omega) _
    have a0 := (bX.cell (p := ⟨bb, off + q * 2, none⟩) hbb).trans a0
    have a1 := (bX.cell (p := ⟨bb, off + q * 2 + 1, none⟩) hbb).trans a1
    go_enter Try.func22, Try.ntmps22
    go_wp2_with fail
    refine (K5.out _ (by decide) (by decide)).mono ?_
    rintro e W ⟨rfl, rfl⟩
    have bX : Below w.heap.size w (((w.alloc (.cells #[.int .i64 who, .int .i64 kind, .int .i64 (q : Int), .int .i64 hs, .int .i64 hg, .string x] 67)).alloc (.cells #[.int .i64 0, .int .i64 0] 32)).alloc (.cells #[.int .i64 pp.1, .int .i64 pp.2] 32)) := (((Below.refl _ w).alloc (Nat.le_refl _) _).alloc (by simp) _).alloc (by simp; omega) _
    have q5 : (((w.alloc (.cells #[.int .i64 who, .int .i64 kind, .int .i64 (q : Int), .int .i64 hs, .int .i64 hg, .string x] 67)).alloc (.cells #[.int .i64 0, .int .i64 0] 32)).alloc (.cells #[.int .i64 pp.1, .int .i64 pp.2] 32)).cell? ⟨w.heap.size, 5, none⟩ = some (.string x) := by simp [go_sem]
    have z0 : (((w.alloc (.cells #[.int .i64 who, .int .i64 kind, .int .i64 (q : Int), .int .i64 hs, .int .i64 hg, .string x] 67)).alloc (.cells #[.int .i64 0, .int .i64 0] 32)).alloc (.cells #[.int .i64 pp.1, .int .i64 pp.2] 32)).cell? ⟨w.heap.size + 1, 0, none⟩ = some (.int .i64 0) := by simp [go_sem]
    have z1 : (((w.alloc (.cells #[.int .i64 who, .int .i64 kind, .int .i64 (q : Int), .int .i64 hs, .int .i64 hg, .string x] 67)).alloc (.cells #[.int .i64 0, .int .i64 0] 32)).alloc (.cells #[.int .i64 pp.1, .int .i64 pp.2] 32)).cell? ⟨w.heap.size + 1, 1, none⟩ = some (.int .i64 0) := by simp [go_sem]
    have h0c : (((w.alloc (.cells #[.int .i64 who, .int .i64 kind, .int .i64 (q : Int), .int .i64 hs, .int .i64 hg, .string x] 67)).alloc (.cells #[.int .i64 0, .int .i64 0] 32)).alloc (.cells #[.int .i64 pp.1, .int .i64 pp.2] 32)).cell? ⟨w.heap.size + 2, 0, none⟩ = some (.int .i64 pp.1) := by simp [go_sem]
    have h1c : (((w.alloc (.cells #[.int .i64 who, .int .i64 kind, .int .i64 (q : Int), .int .i64 hs, .int .i64 hg, .string x] 67)).alloc (.cells #[.int .i64 0, .int .i64 0] 32)).alloc (.cells #[.int .i64 pp.1, .int .i64 pp.2] 32)).cell? ⟨w.heap.size + 2, 1, none⟩ = some (.int .i64 pp.2) := by simp [go_sem]
    have zf0 : (((w.alloc (.cells #[.int .i64 who, .int .i64 kind, .int .i64 (q : Int), .int .i64 hs, .int .i64 hg, .string x] 67)).alloc (.cells #[.int .i64 0, .int .i64 0] 32)).alloc (.cells #[.int .i64 pp.1, .int .i64 pp.2] 32)).frozen? ⟨w.heap.size + 1, 0, none⟩ = false := by simp [go_sem]
    have zf1 : (((w.alloc (.cells #[.int .i64 who, .int .i64 kind, .int .i64 (q : Int), .int .i64 hs, .int .i64 hg, .string x] 67)).alloc (.cells #[.int .i64 0, .int .i64 0] 32)).alloc (.cells #[.int .i64 pp.1, .int .i64 pp.2] 32)).frozen? ⟨w.heap.size + 1, 1, none⟩ = false := by simp [go_sem]
    have LX : w.heap.size + 2 < (((w.alloc (.cells #[.int .i64 who, .int .i64 kind, .int .i64 (q : Int), .int .i64 hs, .int .i64 hg, .string x] 67)).alloc (.cells #[.int .i64 0, .int .i64 0] 32)).alloc (.cells #[.int .i64 pp.1, .int .i64 pp.2] 32)).heap.size := by simp
    have TT : STurn g bm o v.ownBlock w _ := STurn.of_below bX hlm
    have SX := HS.out.below bX
    have RX := HR.out.below bX
    clear bX a0 a1 t1 t2 t3
    generalize (((w.alloc (.cells #[.int .i64 who, .int .i64 kind, .int .i64 (q : Int), .int .i64 hs, .int .i64 hg, .string x] 67)).alloc (.cells #[.int .i64 0, .int .i64 0] 32)).alloc (.cells #[.int .i64 pp.1, .int .i64 pp.2] 32)) = X0 at *
    have hRc : R = 0 ∨ R = 1 ∨ R = 2 ∨ R = 3 ∨ R = 4 := by omega
    rcases hRc with rfl | rfl | rfl | rfl | rfl
    · obtain ⟨hs', hg', ee, l', all', I', len1, len2, hee, C1, C2⟩ := op_put (ps := ps) (g := g) (B := B) (bm := bm) (o := o) (v := v) (n := n) HI.out HN.out hl h0 hm x
      have C1 := Lib.hid C1; have C2 := Lib.hid C2; have HI' := Lib.hid I'; have HE := Lib.hid hee
      clear I' hee
      go_wp2_with fail
      refine (C1.out _ SX).mono ?_
      rintro e X1 ⟨rfl, hgr, SX⟩
      have Tn : STurn g bm o v.ownBlock _ X1 := STurn.of_grown hgr RX.lm (fun e => hB.2.2.2 e.symm)
      have q5 := (Tn.box (b := w.heap.size) (by omega) (by omega) (by omega) (OW.out _ (by omega)) 5).1.trans q5
      have z0 := (Tn.box (b := w.heap.size + 1) (by omega) (by omega) (by omega) (OW.out _ (by omega)) 0).1.trans z0
      have z1 := (Tn.box (b := w.heap.size + 1) (by omega) (by omega) (by omega) (OW.out _ (by omega)) 1).1.trans z1
      have h0c := (Tn.box (b := w.heap.size + 2) (by omega) (by omega) (by omega) (OW.out _ (by omega)) 0).1.trans h0c
      have h1c := (Tn.box (b := w.heap.size + 2) (by omega) (by omega) (by omega) (OW.out _ (by omega)) 1).1.trans h1c
      have zf0 := (Tn.box (b := w.heap.size + 1) (by omega) (by omega) (by omega) (OW.out _ (by omega)) 0).2.trans zf0
      have zf1 := (Tn.box (b := w.heap.size + 1) (by omega) (by omega) (by omega) (OW.out _ (by omega)) 1).2.trans zf1
      have LX := Nat.lt_of_lt_of_le LX Tn.size
      have TT := TT.trans Tn
      have RX := RX.turn hgr hB.2.1 (fun e => hB.2.2.2 e.symm)
      clear Tn hgr
      have bA : Below X1.heap.size X1 ((X1.alloc (.cells #[.int .i64 hs', .int .i64 hg'] 32)).alloc (.cells #[.int .i64 0, .int .i64 0] 32)) := ((Below.refl _ X1).alloc (Nat.le_refl _) _).alloc (by simp) _
      have Tn : STurn g bm o v.ownBlock X1 ((X1.alloc (.cells #[.int .i64 hs', .int .i64 hg'] 32)).alloc (.cells #[.int .i64 0, .int .i64 0] 32)) := STurn.of_below bA RX.lm
      have p0 : ((X1.alloc (.cells #[.int .i64 hs', .int .i64 hg'] 32)).alloc (.cells #[.int .i64 0, .int .i64 0] 32)).cell? ⟨X1.heap.size, 0, none⟩ = some (.int .i64 hs') := by simp [go_sem]
      have p1 : ((X1.alloc (.cells #[.int .i64 hs', .int .i64 hg'] 32)).alloc (.cells #[.int .i64 0, .int .i64 0] 32)).cell? ⟨X1.heap.size, 1, none⟩ = some (.int .i64 hg') := by simp [go_sem]
      have r0 : ((X1.alloc (.cells #[.int .i64 hs', .int .i64 hg'] 32)).alloc (.cells #[.int .i64 0, .int .i64 0] 32)).cell? ⟨X1.heap.size + 1, 0, none⟩ = some (.int .i64 0) := by simp [go_sem]
      have r1 : ((X1.alloc (.cells #[.int .i64 hs', .int .i64 hg'] 32)).alloc (.cells #[.int .i64 0, .int .i64 0] 32)).cell? ⟨X1.heap.size + 1, 1, none⟩ = some (.int .i64 0) := by simp [go_sem]
      have rf0 : ((X1.alloc (.cells #[.int .i64 hs', .int .i64 hg'] 32)).alloc (.cells #[.int .i64 0, .int .i64 0] 32)).frozen? ⟨X1.heap.size + 1, 0, none⟩ = false := by simp [go_sem]
      have rf1 : ((X1.alloc (.cells #[.int .i64 hs', .int .i64 hg'] 32)).alloc (.cells #[.int .i64 0, .int .i64 0] 32)).frozen? ⟨X1.heap.size + 1, 1, none⟩ = false := by simp [go_sem]
      have LX1 := LX
      have LA : X1.heap.size + 1 < ((X1.alloc (.cells #[.int .i64 hs', .int .i64 hg'] 32)).alloc (.cells #[.int .i64 0, .int .i64 0] 32)).heap.size := by simp
      have q5 := (Tn.box (b := w.heap.size) (by omega) (by omega) (by omega) (OW.out _ (by omega)) 5).1.trans q5
      have z0 := (Tn.box (b := w.heap.size + 1) (by omega) (by omega) (by omega) (OW.out _ (by omega)) 0).1.trans z0
      have z1 := (Tn.box (b := w.heap.size + 1) (by omega) (by omega) (by omega) (OW.out _ (by omega)) 1).1.trans z1
      have h0c := (Tn.box (b := w.heap.size + 2) (by omega) (by omega) (by omega) (OW.out _ (by omega)) 0).1.trans h0c
      have h1c := (Tn.box (b := w.heap.size + 2) (by omega) (by omega) (by omega) (OW.out _ (by omega)) 1).1.trans h1c
      have zf0 := (Tn.box (b := w.heap.size + 1) (by omega) (by omega) (by omega) (OW.out _ (by omega)) 0).2.trans zf0
      have zf1 := (Tn.box (b := w.heap.size + 1) (by omega) (by omega) (by omega) (OW.out _ (by omega)) 1).2.trans zf1
      have LX := Nat.lt_of_lt_of_le LX Tn.size
      have TT := TT.trans Tn
      have SX := SX.below bA; have RX := RX.below bA; clear Tn bA
      go_wp2_with fail
      generalize ((X1.alloc (.cells #[.int .i64 hs', .int .i64 hg'] 32)).alloc (.cells #[.int .i64 0, .int .i64 0] 32)) = X2 at *
      generalize X1.heap.size = b13 at *
      have hw13 : w.heap.size + 2 < b13 := LX1
      refine (C2.out _ RX).mono ?_
      rintro e X3 ⟨rfl, hrt, v', RX3, hv'⟩
      have Tn : STurn g bm o v.ownBlock _ X3 := STurn.of_rturn hrt
      have p0 := (Tn.box (b := b13) (by omega) (by omega) (by omega) (OW.out _ (by omega)) 0).1.trans p0
      have p1 := (Tn.box (b := b13) (by omega) (by omega) (by omega) (OW.out _ (by omega)) 1).1.trans p1
      have r0 := (Tn.box (b := b13 + 1) (by omega) (by omega) (by omega) (OW.out _ (by omega)) 0).1.trans r0
      have r1 := (Tn.box (b := b13 + 1) (by omega) (by omega) (by omega) (OW.out _ (by omega)) 1).1.trans r1
      have rf0 := (Tn.box (b := b13 + 1) (by omega) (by omega) (by omega) (OW.out _ (by omega)) 0).2.trans rf0
      have rf1 := (Tn.box (b := b13 + 1) (by omega) (by omega) (by omega) (OW.out _ (by omega)) 1).2.trans rf1
      have LA3 := Nat.lt_of_lt_of_le LA Tn.size
      have hvown : ∀ k, w.heap.size ≤ k → k < X2.heap.size → some k ≠ v'.ownBlock := fun k h1 h2 e => by
        rcases hv' with h3 | ⟨k', h3, h4⟩
        · exact OW.out k h1 (e.trans h3)
        · rw [h3] at e; injection e with e; omega
      have HVO := Lib.hid hvown; clear hvown
      have LX : w.heap.size + 2 < X2.heap.size := by omega
      have q5 := (Tn.box (b := w.heap.size) (by omega) (by omega) (by omega) (OW.out _ (by omega)) 5).1.trans q5
      have z0 := (Tn.box (b := w.heap.size + 1) (by omega) (by omega) (by omega) (OW.out _ (by omega)) 0).1.trans z0
      have z1 := (Tn.box (b := w.heap.size + 1) (by omega) (by omega) (by omega) (OW.out _ (by omega)) 1).1.trans z1
      have h0c := (Tn.box (b := w.heap.size + 2) (by omega) (by omega) (by omega) (OW.out _ (by omega)) 0).1.trans h0c
      have h1c := (Tn.box (b := w.heap.size + 2) (by omega) (by omega) (by omega) (OW.out _ (by omega)) 1).1.trans h1c
      have zf0 := (Tn.box (b := w.heap.size + 1) (by omega) (by omega) (by omega) (OW.out _ (by omega)) 0).2.trans zf0
      have zf1 := (Tn.box (b := w.heap.size + 1) (by omega) (by omega) (by omega) (OW.out _ (by omega)) 1).2.trans zf1
      have LX := Nat.lt_of_lt_of_le LX Tn.size
      have TT := TT.trans Tn
      have SX := SX.rturn hrt hB.2.2.1 hB.2.2.2 (fun e => hpo.out e.symm) (fun e => hgo.out e.symm)
      have HVV := Lib.hid hv'
      have hsz3 := hrt.size
      clear Tn hrt hv' RX
      have n1 : b13 + 1 ≠ w.heap.size + 1 := by omega
      have n2 : b13 ≠ w.heap.size + 1 := by omega
      have n3 : w.heap.size + 1 ≠ b13 + 1 := by omega
      have n4 : w.heap.size + 1 ≠ b13 := by omega
      have SXd : SlabAt 111 X3.drew ps g l' := ⟨SX.ptr, SX.blk, SX.ne⟩
      have RXd : RefAt B X3.drew bm o v' n all' := RX3.below (Below.refl _ _).drew
      have TTd : STurn g bm o v.ownBlock w X3.drew := TT.trans (STurn.of_below (Below.refl _ _).drew RX3.lm)
      have HVX : some (w.heap.size + 1) ≠ v'.ownBlock := HVO.out _ (by omega) (by omega)
      have HX := Lib.hid HVX; clear HVX
      go_wp2_with fail
      go_region
      all_goals (try go_wp2_with fail)
      all_goals refine bodyPost_ret (v := .tuple #[.agg #[.int .i64 hs', .int .i64 hg'], .bool true]) (by simp [results, Try.results22, go_sem, z0, z1]) rfl ⟨_, _, l', all', v', rfl, HI'.out, len1, len2, ?_, ?_, ?_, HVV.out.imp id (fun ⟨k, h1, h2⟩ => ⟨k, h1, by omega⟩)⟩
      all_goals first | exact SlabAt.drew' ((((SX.far (by omega) (by omega) _ _).far (by omega) (by omega) _ _).far (by omega) (by omega) _ _).far (by omega) (by omega) _ _) | exact ((((RX3.setNew (b := b13 + 1) (by omega) (HVO.out _ (by omega) (by omega)) _ _).setNew (b := b13 + 1) (by omega) (HVO.out _ (by omega) (by omega)) _ _).setNew (b := w.heap.size + 1) (by omega) HX.out _ _).setNew (b := w.heap.size + 1) (by omega) HX.out _ _).below (Below.refl _ _).drew | exact ((((TT.setNew (b := b13 + 1) (by omega) hlm _ _).setNew (b := b13 + 1) (by omega) hlm _ _).setNew (b := w.heap.size + 1) (by omega) hlm _ _).setNew (b := w.heap.size + 1) (by omega) hlm _ _).trans (STurn.of_below (Below.refl _ _).drew (by have := RX3.lm; simp; omega))
    · obtain ⟨xx, bb1, C1, C2⟩ := op_get (ps := ps) (g := g) (B := B) (bm := bm) (o := o) (v := v) (n := n) HI.out (by omega) pp.1 pp.2
      have C1 := Lib.hid C1; have C2 := Lib.hid C2
      go_wp2_with fail
      refine (C1.out _ SX).mono ?_
      rintro e W ⟨rfl, z, rfl⟩
      have Tn : STurn g bm o v.ownBlock _ z.i := STurn.of_below z.h RX.lm
      have q5 := (Tn.box (b := w.heap.size) (by omega) (by omega) (by omega) (OW.out _ (by omega)) 5).1.trans q5
      have z0 := (Tn.box (b := w.heap.size + 1) (by omega) (by omega) (by omega) (OW.out _ (by omega)) 0).1.trans z0
      have z1 := (Tn.box (b := w.heap.size + 1) (by omega) (by omega) (by omega) (OW.out _ (by omega)) 1).1.trans z1
      have h0c := (Tn.box (b := w.heap.size + 2) (by omega) (by omega) (by omega) (OW.out _ (by omega)) 0).1.trans h0c
      have h1c := (Tn.box (b := w.heap.size + 2) (by omega) (by omega) (by omega) (OW.out _ (by omega)) 1).1.trans h1c
      have zf0 := (Tn.box (b := w.heap.size + 1) (by omega) (by omega) (by omega) (OW.out _ (by omega)) 0).2.trans zf0
      have zf1 := (Tn.box (b := w.heap.size + 1) (by omega) (by omega) (by omega) (OW.out _ (by omega)) 1).2.trans zf1
      have LX := Nat.lt_of_lt_of_le LX Tn.size
      have TT := TT.trans Tn
      have SX := SX.below z.h
      have RX := RX.below z.h
      clear Tn
      generalize z.i = X1 at *
      clear z
      go_wp2_with fail
      refine (C2.out _ RX).mono ?_
      rintro e W ⟨rfl, z, rfl⟩
      have Tn : STurn g bm o v.ownBlock _ z.i := STurn.of_below z.h RX.lm
      have q5 := (Tn.box (b := w.heap.size) (by omega) (by omega) (by omega) (OW.out _ (by omega)) 5).1.trans q5
      have z0 := (Tn.box (b := w.heap.size + 1) (by omega) (by omega) (by omega) (OW.out _ (by omega)) 0).1.trans z0
      have z1 := (Tn.box (b := w.heap.size + 1) (by omega) (by omega) (by omega) (OW.out _ (by omega)) 1).1.trans z1
      have h0c := (Tn.box (b := w.heap.size + 2) (by omega) (by omega) (by omega) (OW.out _ (by omega)) 0).1.trans h0c
      have h1c := (Tn.box (b := w.heap.size + 2) (by omega) (by omega) (by omega) (OW.out _ (by omega)) 1).1.trans h1c
      have zf0 := (Tn.box (b := w.heap.size + 1) (by omega) (by omega) (by omega) (OW.out _ (by omega)) 0).2.trans zf0
      have zf1 := (Tn.box (b := w.heap.size + 1) (by omega) (by omega) (by omega) (OW.out _ (by omega)) 1).2.trans zf1
      have LX := Nat.lt_of_lt_of_le LX Tn.size
      have TT := TT.trans Tn
      have SX := SX.below z.h
      have RX := RX.below z.h
      clear Tn
      generalize z.i = X2 at *
      clear z
      go_wp2_with fail
      refine bodyPost_ret (v := .tuple #[.agg #[.int .i64 pp.1, .int .i64 pp.2], .bool true]) (by simp [results, Try.results22, go_sem, z0, z1]) rfl ⟨_, _, l, all, v, rfl, HI.out, rfl, Nat.le_succ _, ?_, ?_, ?_, .inl rfl⟩
      · exact (SX.far (by omega) (by omega) _ _).far (by omega) (by omega) _ _
      · exact (RX.setNew (b := w.heap.size + 1) (by omega) (OW.out _ (by omega)) _ _).setNew (b := w.heap.size + 1) (by omega) (OW.out _ (by omega)) _ _
      · exact (TT.setNew (by omega) hlm _ _).setNew (by omega) hlm _ _
    · obtain ⟨bb1, l', all', I', len1, len2, C1, C2⟩ := op_set (ps := ps) (g := g) (B := B) (bm := bm) (o := o) (v := v) (n := n) HI.out (by omega) pp.1 pp.2 x
      have C1 := Lib.hid C1; have C2 := Lib.hid C2; have HI' := Lib.hid I'; clear I'
      go_wp2_with fail
      refine (C1.out _ SX).mono ?_
      rintro e X1 ⟨rfl, hgr, SX⟩
      have Tn : STurn g bm o v.ownBlock _ X1 := STurn.of_grown hgr RX.lm (fun e => hB.2.2.2 e.symm)
      have q5 := (Tn.box (b := w.heap.size) (by omega) (by omega) (by omega) (OW.out _ (by omega)) 5).1.trans q5
      have z0 := (Tn.box (b := w.heap.size + 1) (by omega) (by omega) (by omega) (OW.out _ (by omega)) 0).1.trans z0
      have z1 := (Tn.box (b := w.heap.size + 1) (by omega) (by omega) (by omega) (OW.out _ (by omega)) 1).1.trans z1
      have h0c := (Tn.box (b := w.heap.size + 2) (by omega) (by omega) (by omega) (OW.out _ (by omega)) 0).1.trans h0c
      have h1c := (Tn.box (b := w.heap.size + 2) (by omega) (by omega) (by omega) (OW.out _ (by omega)) 1).1.trans h1c
      have zf0 := (Tn.box (b := w.heap.size + 1) (by omega) (by omega) (by omega) (OW.out _ (by omega)) 0).2.trans zf0
      have zf1 := (Tn.box (b := w.heap.size + 1) (by omega) (by omega) (by omega) (OW.out _ (by omega)) 1).2.trans zf1
      have LX := Nat.lt_of_lt_of_le LX Tn.size
      have TT := TT.trans Tn
      have RX := RX.turn hgr hB.2.1 (fun e => hB.2.2.2 e.symm)
      clear Tn hgr
      go_wp2_with fail
      refine (C2.out _ RX).mono ?_
      rintro e X2 ⟨rfl, hrt, RX⟩
      have Tn : STurn g bm o v.ownBlock _ X2 := STurn.of_rturn hrt
      have q5 := (Tn.box (b := w.heap.size) (by omega) (by omega) (by omega) (OW.out _ (by omega)) 5).1.trans q5
      have z0 := (Tn.box (b := w.heap.size + 1) (by omega) (by omega) (by omega) (OW.out _ (by omega)) 0).1.trans z0
      have z1 := (Tn.box (b := w.heap.size + 1) (by omega) (by omega) (by omega) (OW.out _ (by omega)) 1).1.trans z1
      have h0c := (Tn.box (b := w.heap.size + 2) (by omega) (by omega) (by omega) (OW.out _ (by omega)) 0).1.trans h0c
      have h1c := (Tn.box (b := w.heap.size + 2) (by omega) (by omega) (by omega) (OW.out _ (by omega)) 1).1.trans h1c
      have zf0 := (Tn.box (b := w.heap.size + 1) (by omega) (by omega) (by omega) (OW.out _ (by omega)) 0).2.trans zf0
      have zf1 := (Tn.box (b := w.heap.size + 1) (by omega) (by omega) (by omega) (OW.out _ (by omega)) 1).2.trans zf1
      have LX := Nat.lt_of_lt_of_le LX Tn.size
      have TT := TT.trans Tn
      have SX := SX.rturn hrt hB.2.2.1 hB.2.2.2 (fun e => hpo.out e.symm) (fun e => hgo.out e.symm)
      clear Tn hrt
      go_wp2_with fail
      refine bodyPost_ret (v := .tuple #[.agg #[.int .i64 pp.1, .int .i64 pp.2], .bool true]) (by simp [results, Try.results22, go_sem, z0, z1]) rfl ⟨_, _, l', all', v, rfl, HI'.out, len1, by omega, ?_, ?_, ?_, .inl rfl⟩
      · exact (SX.far (by omega) (by omega) _ _).far (by omega) (by omega) _ _
      · exact (RX.setNew (b := w.heap.size + 1) (by omega) (OW.out _ (by omega)) _ _).setNew (b := w.heap.size + 1) (by omega) (OW.out _ (by omega)) _ _
      · exact (TT.setNew (by omega) hlm _ _).setNew (by omega) hlm _ _
    · obtain ⟨xx, bb1, l', all', I', len1, len2, C1, C2⟩ := op_drop (ps := ps) (g := g) (B := B) (bm := bm) (o := o) (v := v) (n := n) HI.out (by omega) pp.1 pp.2
      have C1 := Lib.hid C1; have C2 := Lib.hid C2; have HI' := Lib.hid I'; clear I'
      go_wp2_with fail
      refine (C1.out _ SX).mono ?_
      rintro e X1 ⟨rfl, hgr, SX⟩
      have Tn : STurn g bm o v.ownBlock _ X1 := STurn.of_grown hgr RX.lm (fun e => hB.2.2.2 e.symm)
      have q5 := (Tn.box (b := w.heap.size) (by omega) (by omega) (by omega) (OW.out _ (by omega)) 5).1.trans q5
      have z0 := (Tn.box (b := w.heap.size + 1) (by omega) (by omega) (by omega) (OW.out _ (by omega)) 0).1.trans z0
      have z1 := (Tn.box (b := w.heap.size + 1) (by omega) (by omega) (by omega) (OW.out _ (by omega)) 1).1.trans z1
      have h0c := (Tn.box (b := w.heap.size + 2) (by omega) (by omega) (by omega) (OW.out _ (by omega)) 0).1.trans h0c
      have h1c := (Tn.box (b := w.heap.size + 2) (by omega) (by omega) (by omega) (OW.out _ (by omega)) 1).1.trans h1c
      have zf0 := (Tn.box (b := w.heap.size + 1) (by omega) (by omega) (by omega) (OW.out _ (by omega)) 0).2.trans zf0
      have zf1 := (Tn.box (b := w.heap.size + 1) (by omega) (by omega) (by omega) (OW.out _ (by omega)) 1).2.trans zf1
      have LX := Nat.lt_of_lt_of_le LX Tn.size
      have TT := TT.trans Tn
      have RX := RX.turn hgr hB.2.1 (fun e => hB.2.2.2 e.symm)
      clear Tn hgr
      go_wp2_with fail
      refine (C2.out _ RX).mono ?_
      rintro e X2 ⟨rfl, hrt, RX⟩
      have Tn : STurn g bm o v.ownBlock _ X2 := STurn.of_rturn hrt
      have q5 := (Tn.box (b := w.heap.size) (by omega) (by omega) (by omega) (OW.out _ (by omega)) 5).1.trans q5
      have z0 := (Tn.box (b := w.heap.size + 1) (by omega) (by omega) (by omega) (OW.out _ (by omega)) 0).1.trans z0
      have z1 := (Tn.box (b := w.heap.size + 1) (by omega) (by omega) (by omega) (OW.out _ (by omega)) 1).1.trans z1
      have h0c := (Tn.box (b := w.heap.size + 2) (by omega) (by omega) (by omega) (OW.out _ (by omega)) 0).1.trans h0c
      have h1c := (Tn.box (b := w.heap.size + 2) (by omega) (by omega) (by omega) (OW.out _ (by omega)) 1).1.trans h1c
      have zf0 := (Tn.box (b := w.heap.size + 1) (by omega) (by omega) (by omega) (OW.out _ (by omega)) 0).2.trans zf0
      have zf1 := (Tn.box (b := w.heap.size + 1) (by omega) (by omega) (by omega) (OW.out _ (by omega)) 1).2.trans zf1
      have LX := Nat.lt_of_lt_of_le LX Tn.size
      have TT := TT.trans Tn
      have SX := SX.rturn hrt hB.2.2.1 hB.2.2.2 (fun e => hpo.out e.symm) (fun e => hgo.out e.symm)
      clear Tn hrt
      go_wp2_with fail
      refine bodyPost_ret (v := .tuple #[.agg #[.int .i64 pp.1, .int .i64 pp.2], .bool true]) (by simp [results, Try.results22, go_sem, z0, z1]) rfl ⟨_, _, l', all', v, rfl, HI'.out, len1, by omega, ?_, ?_, ?_, .inl rfl⟩
      · exact (SX.far (by omega) (by omega) _ _).far (by omega) (by omega) _ _
      · exact (RX.setNew (b := w.heap.size + 1) (by omega) (OW.out _ (by omega)) _ _).setNew (b := w.heap.size + 1) (by omega) (OW.out _ (by omega)) _ _
      · exact (TT.setNew (by omega) hlm _ _).setNew (by omega) hlm _ _
    · have C1 := Lib.hid (fun (u : World) (hu : RefAt B u bm o v n all) => op_list HI.out HN.out hl (by omega) u hu)
      have hxs := HI.out.strs
      have SXh := Lib.hid SX; have RXh := Lib.hid RX; have TTh := Lib.hid TT; have HXS := Lib.hid hxs; clear hxs
      have hn1 : bm < X0.heap.size := RX.lm
      go_wp2_with fail
      go_region_with (first | (go_at_call 23; refine Calls.mono (C1.out _ (RXh.out.below (Below.refl _ _).drew)) ?_; rintro e W1 ⟨v1, rfl, b1, own1⟩; have S1 := (SlabAt.drew' SXh.out).below b1; have h0d := (b1.cell (p := ⟨w.heap.size + 2, 0, none⟩) LX).trans h0c; have h1d := (b1.cell (p := ⟨w.heap.size + 2, 1, none⟩) LX).trans h1c) | (go_at_call 26; refine Calls.mono (has_slab HXS.out hl h0 S1 own1) ?_; rintro e W2 ⟨rfl, z2, rfl⟩; have bz := b1.trans (z2.h.mono b1.size); have h0e := (bz.cell (p := ⟨w.heap.size + 2, 0, none⟩) LX).trans h0c; have h1e := (bz.cell (p := ⟨w.heap.size + 2, 1, none⟩) LX).trans h1c; have z0e := (bz.cell (p := ⟨w.heap.size + 1, 0, none⟩) (Nat.lt_of_succ_lt LX)).trans z0; have z1e := (bz.cell (p := ⟨w.heap.size + 1, 1, none⟩) (Nat.lt_of_succ_lt LX)).trans z1; have zf0e := (bz.frozen (p := ⟨w.heap.size + 1, 0, none⟩) (Nat.lt_of_succ_lt LX)).trans zf0; have zf1e := (bz.frozen (p := ⟨w.heap.size + 1, 1, none⟩) (Nat.lt_of_succ_lt LX)).trans zf1))
      all_goals (try go_wp2_with fail)
      all_goals refine bodyPost_ret (v := .tuple #[.agg #[.int .i64 (pp.1), .int .i64 (pp.2)], .bool true]) (by simp [results, Try.results22, go_sem, z0e, z1e]) rfl ⟨_, _, l, all, v, rfl, HI.out, rfl, Nat.le_succ _, ?_, ?_, ?_, .inl rfl⟩
      all_goals (have Sz := S1.below z2.h; have Rz := (RXh.out.below (Below.refl _ _).drew).below bz; have Tz : STurn g bm o v.ownBlock w z2.i := (TTh.out.trans (STurn.of_below (Below.refl _ _).drew hn1)).trans (STurn.of_below bz hn1))
      all_goals first | exact (Sz.far (by omega) (by omega) _ _).far (by omega) (by omega) _ _ | exact (Rz.setNew (b := w.heap.size + 1) (by omega) (OW.out _ (by omega)) _ _).setNew (b := w.heap.size + 1) (by omega) (OW.out _ (by omega)) _ _ | exact (Tz.setNew (b := w.heap.size + 1) (by omega) hlm _ _).setNew (b := w.heap.size + 1) (by omega) hlm _ _
  · have t1 : decide (0 ≤ nn) = false ∨ (decide (0 ≤ nn) = true ∧ decide (nn < (n7 : Int)) = false) := by
      by_cases h1 : 0 ≤ nn
      · exact .inr ⟨decide_eq_true h1, decide_eq_false (fun h2 => hN ⟨h1, h2⟩)⟩
      · exact .inl (decide_eq_false h1)
    rcases t1 with t1 | ⟨t1, t2⟩
    · go_enter Try.func22, Try.ntmps22
      go_wp2_with fail
      refine (K5.out _ (by decide) (by decide)).mono ?_
      rintro e W ⟨rfl, rfl⟩
      have bX : Below w.heap.size w (((w.alloc (.cells #[.int .i64 who, .int .i64 kind, .int .i64 nn, .int .i64 hs, .int .i64 hg, .string x] 67)).alloc (.cells #[.int .i64 0, .int .i64 0] 32)).alloc (.cells #[.int .i64 hs, .int .i64 hg] 32)) := (((Below.refl _ w).alloc (Nat.le_refl _) _).alloc (by simp) _).alloc (by simp; omega) _
      have q5 : (((w.alloc (.cells #[.int .i64 who, .int .i64 kind, .int .i64 nn, .int .i64 hs, .int .i64 hg, .string x] 67)).alloc (.cells #[.int .i64 0, .int .i64 0] 32)).alloc (.cells #[.int .i64 hs, .int .i64 hg] 32)).cell? ⟨w.heap.size, 5, none⟩ = some (.string x) := by simp [go_sem]
      have z0 : (((w.alloc (.cells #[.int .i64 who, .int .i64 kind, .int .i64 nn, .int .i64 hs, .int .i64 hg, .string x] 67)).alloc (.cells #[.int .i64 0, .int .i64 0] 32)).alloc (.cells #[.int .i64 hs, .int .i64 hg] 32)).cell? ⟨w.heap.size + 1, 0, none⟩ = some (.int .i64 0) := by simp [go_sem]
      have z1 : (((w.alloc (.cells #[.int .i64 who, .int .i64 kind, .int .i64 nn, .int .i64 hs, .int .i64 hg, .string x] 67)).alloc (.cells #[.int .i64 0, .int .i64 0] 32)).alloc (.cells #[.int .i64 hs, .int .i64 hg] 32)).cell? ⟨w.heap.size + 1, 1, none⟩ = some (.int .i64 0) := by simp [go_sem]
      have h0c : (((w.alloc (.cells #[.int .i64 who, .int .i64 kind, .int .i64 nn, .int .i64 hs, .int .i64 hg, .string x] 67)).alloc (.cells #[.int .i64 0, .int .i64 0] 32)).alloc (.cells #[.int .i64 hs, .int .i64 hg] 32)).cell? ⟨w.heap.size + 2, 0, none⟩ = some (.int .i64 hs) := by simp [go_sem]
      have h1c : (((w.alloc (.cells #[.int .i64 who, .int .i64 kind, .int .i64 nn, .int .i64 hs, .int .i64 hg, .string x] 67)).alloc (.cells #[.int .i64 0, .int .i64 0] 32)).alloc (.cells #[.int .i64 hs, .int .i64 hg] 32)).cell? ⟨w.heap.size + 2, 1, none⟩ = some (.int .i64 hg) := by simp [go_sem]
      have zf0 : (((w.alloc (.cells #[.int .i64 who, .int .i64 kind, .int .i64 nn, .int .i64 hs, .int .i64 hg, .string x] 67)).alloc (.cells #[.int .i64 0, .int .i64 0] 32)).alloc (.cells #[.int .i64 hs, .int .i64 hg] 32)).frozen? ⟨w.heap.size + 1, 0, none⟩ = false := by simp [go_sem]
      have zf1 : (((w.alloc (.cells #[.int .i64 who, .int .i64 kind, .int .i64 nn, .int .i64 hs, .int .i64 hg, .string x] 67)).alloc (.cells #[.int .i64 0, .int .i64 0] 32)).alloc (.cells #[.int .i64 hs, .int .i64 hg] 32)).frozen? ⟨w.heap.size + 1, 1, none⟩ = false := by simp [go_sem]
      have LX : w.heap.size + 2 < (((w.alloc (.cells #[.int .i64 who, .int .i64 kind, .int .i64 nn, .int .i64 hs, .int .i64 hg, .string x] 67)).alloc (.cells #[.int .i64 0, .int .i64 0] 32)).alloc (.cells #[.int .i64 hs, .int .i64 hg] 32)).heap.size := by simp
      have TT : STurn g bm o v.ownBlock w _ := STurn.of_below bX hlm
      have SX := HS.out.below bX
      have RX := HR.out.below bX
      clear bX
      generalize (((w.alloc (.cells #[.int .i64 who, .int .i64 kind, .int .i64 nn, .int .i64 hs, .int .i64 hg, .string x] 67)).alloc (.cells #[.int .i64 0, .int .i64 0] 32)).alloc (.cells #[.int .i64 hs, .int .i64 hg] 32)) = X0 at *
      have hRc : R = 0 ∨ R = 1 ∨ R = 2 ∨ R = 3 ∨ R = 4 := by omega
      rcases hRc with rfl | rfl | rfl | rfl | rfl
      · obtain ⟨hs', hg', ee, l', all', I', len1, len2, hee, C1, C2⟩ := op_put (ps := ps) (g := g) (B := B) (bm := bm) (o := o) (v := v) (n := n) HI.out HN.out hl h0 hm x
        have C1 := Lib.hid C1; have C2 := Lib.hid C2; have HI' := Lib.hid I'; have HE := Lib.hid hee
        clear I' hee
        go_wp2_with fail
        refine (C1.out _ SX).mono ?_
        rintro e X1 ⟨rfl, hgr, SX⟩
        have Tn : STurn g bm o v.ownBlock _ X1 := STurn.of_grown hgr RX.lm (fun e => hB.2.2.2 e.symm)
        have q5 := (Tn.box (b := w.heap.size) (by omega) (by omega) (by omega) (OW.out _ (by omega)) 5).1.trans q5
        have z0 := (Tn.box (b := w.heap.size + 1) (by omega) (by omega) (by omega) (OW.out _ (by omega)) 0).1.trans z0
        have z1 := (Tn.box (b := w.heap.size + 1) (by omega) (by omega) (by omega) (OW.out _ (by omega)) 1).1.trans z1
        have h0c := (Tn.box (b := w.heap.size + 2) (by omega) (by omega) (by omega) (OW.out _ (by omega)) 0).1.trans h0c
        have h1c := (Tn.box (b := w.heap.size + 2) (by omega) (by omega) (by omega) (OW.out _ (by omega)) 1).1.trans h1c
        have zf0 := (Tn.box (b := w.heap.size + 1) (by omega) (by omega) (by omega) (OW.out _ (by omega)) 0).2.trans zf0
        have zf1 := (Tn.box (b := w.heap.size + 1) (by omega) (by omega) (by omega) (OW.out _ (by omega)) 1).2.trans zf1
        have LX := Nat.lt_of_lt_of_le LX Tn.size
        have TT := TT.trans Tn
        have RX := RX.turn hgr hB.2.1 (fun e => hB.2.2.2 e.symm)
        clear Tn hgr
        have bA : Below X1.heap.size X1 ((X1.alloc (.cells #[.int .i64 hs', .int .i64 hg'] 32)).alloc (.cells #[.int .i64 0, .int .i64 0] 32)) := ((Below.refl _ X1).alloc (Nat.le_refl _) _).alloc (by simp) _
        have Tn : STurn g bm o v.ownBlock X1 ((X1.alloc (.cells #[.int .i64 hs', .int .i64 hg'] 32)).alloc (.cells #[.int .i64 0, .int .i64 0] 32)) := STurn.of_below bA RX.lm
        have p0 : ((X1.alloc (.cells #[.int .i64 hs', .int .i64 hg'] 32)).alloc (.cells #[.int .i64 0, .int .i64 0] 32)).cell? ⟨X1.heap.size, 0, none⟩ = some (.int .i64 hs') := by simp [go_sem]
        have p1 : ((X1.alloc (.cells #[.int .i64 hs', .int .i64 hg'] 32)).alloc (.cells #[.int .i64 0, .int .i64 0] 32)).cell? ⟨X1.heap.size, 1, none⟩ = some (.int .i64 hg') := by simp [go_sem]
        have r0 : ((X1.alloc (.cells #[.int .i64 hs', .int .i64 hg'] 32)).alloc (.cells #[.int .i64 0, .int .i64 0] 32)).cell? ⟨X1.heap.size + 1, 0, none⟩ = some (.int .i64 0) := by simp [go_sem]
        have r1 : ((X1.alloc (.cells #[.int .i64 hs', .int .i64 hg'] 32)).alloc (.cells #[.int .i64 0, .int .i64 0] 32)).cell? ⟨X1.heap.size + 1, 1, none⟩ = some (.int .i64 0) := by simp [go_sem]
        have rf0 : ((X1.alloc (.cells #[.int .i64 hs', .int .i64 hg'] 32)).alloc (.cells #[.int .i64 0, .int .i64 0] 32)).frozen? ⟨X1.heap.size + 1, 0, none⟩ = false := by simp [go_sem]
        have rf1 : ((X1.alloc (.cells #[.int .i64 hs', .int .i64 hg'] 32)).alloc (.cells #[.int .i64 0, .int .i64 0] 32)).frozen? ⟨X1.heap.size + 1, 1, none⟩ = false := by simp [go_sem]
        have LX1 := LX
        have LA : X1.heap.size + 1 < ((X1.alloc (.cells #[.int .i64 hs', .int .i64 hg'] 32)).alloc (.cells #[.int .i64 0, .int .i64 0] 32)).heap.size := by simp
        have q5 := (Tn.box (b := w.heap.size) (by omega) (by omega) (by omega) (OW.out _ (by omega)) 5).1.trans q5
        have z0 := (Tn.box (b := w.heap.size + 1) (by omega) (by omega) (by omega) (OW.out _ (by omega)) 0).1.trans z0
        have z1 := (Tn.box (b := w.heap.size + 1) (by omega) (by omega) (by omega) (OW.out _ (by omega)) 1).1.trans z1
        have h0c := (Tn.box (b := w.heap.size + 2) (by omega) (by omega) (by omega) (OW.out _ (by omega)) 0).1.trans h0c
        have h1c := (Tn.box (b := w.heap.size + 2) (by omega) (by omega) (by omega) (OW.out _ (by omega)) 1).1.trans h1c
        have zf0 := (Tn.box (b := w.heap.size + 1) (by omega) (by omega) (by omega) (OW.out _ (by omega)) 0).2.trans zf0
        have zf1 := (Tn.box (b := w.heap.size + 1) (by omega) (by omega) (by omega) (OW.out _ (by omega)) 1).2.trans zf1
        have LX := Nat.lt_of_lt_of_le LX Tn.size
        have TT := TT.trans Tn
        have SX := SX.below bA; have RX := RX.below bA; clear Tn bA
        go_wp2_with fail
        generalize ((X1.alloc (.cells #[.int .i64 hs', .int .i64 hg'] 32)).alloc (.cells #[.int .i64 0, .int .i64 0] 32)) = X2 at *
        generalize X1.heap.size = b13 at *
        have hw13 : w.heap.size + 2 < b13 := LX1
        refine (C2.out _ RX).mono ?_
        rintro e X3 ⟨rfl, hrt, v', RX3, hv'⟩
        have Tn : STurn g bm o v.ownBlock _ X3 := STurn.of_rturn hrt
        have p0 := (Tn.box (b := b13) (by omega) (by omega) (by omega) (OW.out _ (by omega)) 0).1.trans p0
        have p1 := (Tn.box (b := b13) (by omega) (by omega) (by omega) (OW.out _ (by omega)) 1).1.trans p1
        have r0 := (Tn.box (b := b13 + 1) (by omega) (by omega) (by omega) (OW.out _ (by omega)) 0).1.trans r0
        have r1 := (Tn.box (b := b13 + 1) (by omega) (by omega) (by omega) (OW.out _ (by omega)) 1).1.trans r1
        have rf0 := (Tn.box (b := b13 + 1) (by omega) (by omega) (by omega) (OW.out _ (by omega)) 0).2.trans rf0
        have rf1 := (Tn.box (b := b13 + 1) (by omega) (by omega) (by omega) (OW.out _ (by omega)) 1).2.trans rf1
        have LA3 := Nat.lt_of_lt_of_le LA Tn.size
        have hvown : ∀ k, w.heap.size ≤ k → k < X2.heap.size → some k ≠ v'.ownBlock := fun k h1 h2 e => by
          rcases hv' with h3 | ⟨k', h3, h4⟩
          · exact OW.out k h1 (e.trans h3)
          · rw [h3] at e; injection e with e; omega
        have HVO := Lib.hid hvown; clear hvown
        have LX : w.heap.size + 2 < X2.heap.size := by omega
        have q5 := (Tn.box (b := w.heap.size) (by omega) (by omega) (by omega) (OW.out _ (by omega)) 5).1.trans q5
        have z0 := (Tn.box (b := w.heap.size + 1) (by omega) (by omega) (by omega) (OW.out _ (by omega)) 0).1.trans z0
        have z1 := (Tn.box (b := w.heap.size + 1) (by omega) (by omega) (by omega) (OW.out _ (by omega)) 1).1.trans z1
        have h0c := (Tn.box (b := w.heap.size + 2) (by omega) (by omega) (by omega) (OW.out _ (by omega)) 0).1.trans h0c
        have h1c := (Tn.box (b := w.heap.size + 2) (by omega) (by omega) (by omega) (OW.out _ (by omega)) 1).1.trans h1c
        have zf0 := (Tn.box (b := w.heap.size + 1) (by omega) (by omega) (by omega) (OW.out _ (by omega)) 0).2.trans zf0
        have zf1 := (Tn.box (b := w.heap.size + 1) (by omega) (by omega) (by omega) (OW.out _ (by omega)) 1).2.trans zf1
        have LX := Nat.lt_of_lt_of_le LX Tn.size
        have TT := TT.trans Tn
        have SX := SX.rturn hrt hB.2.2.1 hB.2.2.2 (fun e => hpo.out e.symm) (fun e => hgo.out e.symm)
        have HVV := Lib.hid hv'
        have hsz3 := hrt.size
        clear Tn hrt hv' RX
        have n1 : b13 + 1 ≠ w.heap.size + 1 := by omega
        have n2 : b13 ≠ w.heap.size + 1 := by omega
        have n3 : w.heap.size + 1 ≠ b13 + 1 := by omega
        have n4 : w.heap.size + 1 ≠ b13 := by omega
        have SXd : SlabAt 111 X3.drew ps g l' := ⟨SX.ptr, SX.blk, SX.ne⟩
        have RXd : RefAt B X3.drew bm o v' n all' := RX3.below (Below.refl _ _).drew
        have TTd : STurn g bm o v.ownBlock w X3.drew := TT.trans (STurn.of_below (Below.refl _ _).drew RX3.lm)
        have HVX : some (w.heap.size + 1) ≠ v'.ownBlock := HVO.out _ (by omega) (by omega)
        have HX := Lib.hid HVX; clear HVX
        go_wp2_with fail
        go_region
        all_goals (try go_wp2_with fail)
        all_goals refine bodyPost_ret (v := .tuple #[.agg #[.int .i64 hs', .int .i64 hg'], .bool true]) (by simp [results, Try.results22, go_sem, z0, z1]) rfl ⟨_, _, l', all', v', rfl, HI'.out, len1, len2, ?_, ?_, ?_, HVV.out.imp id (fun ⟨k, h1, h2⟩ => ⟨k, h1, by omega⟩)⟩
        all_goals first | exact SlabAt.drew' ((((SX.far (by omega) (by omega) _ _).far (by omega) (by omega) _ _).far (by omega) (by omega) _ _).far (by omega) (by omega) _ _) | exact ((((RX3.setNew (b := b13 + 1) (by omega) (HVO.out _ (by omega) (by omega)) _ _).setNew (b := b13 + 1) (by omega) (HVO.out _ (by omega) (by omega)) _ _).setNew (b := w.heap.size + 1) (by omega) HX.out _ _).setNew (b := w.heap.size + 1) (by omega) HX.out _ _).below (Below.refl _ _).drew | exact ((((TT.setNew (b := b13 + 1) (by omega) hlm _ _).setNew (b := b13 + 1) (by omega) hlm _ _).setNew (b := w.heap.size + 1) (by omega) hlm _ _).setNew (b := w.heap.size + 1) (by omega) hlm _ _).trans (STurn.of_below (Below.refl _ _).drew (by have := RX3.lm; simp; omega))
      · obtain ⟨xx, bb1, C1, C2⟩ := op_get (ps := ps) (g := g) (B := B) (bm := bm) (o := o) (v := v) (n := n) HI.out (by omega) hs hg
        have C1 := Lib.hid C1; have C2 := Lib.hid C2
        go_wp2_with fail
        refine (C1.out _ SX).mono ?_
        rintro e W ⟨rfl, z, rfl⟩
        have Tn : STurn g bm o v.ownBlock _ z.i := STurn.of_below z.h RX.lm
        have q5 := (Tn.box (b := w.heap.size) (by omega) (by omega) (by omega) (OW.out _ (by omega)) 5).1.trans q5
        have z0 := (Tn.box (b := w.heap.size + 1) (by omega) (by omega) (by omega) (OW.out _ (by omega)) 0).1.trans z0
        have z1 := (Tn.box (b := w.heap.size + 1) (by omega) (by omega) (by omega) (OW.out _ (by omega)) 1).1.trans z1
        have h0c := (Tn.box (b := w.heap.size + 2) (by omega) (by omega) (by omega) (OW.out _ (by omega)) 0).1.trans h0c
        have h1c := (Tn.box (b := w.heap.size + 2) (by omega) (by omega) (by omega) (OW.out _ (by omega)) 1).1.trans h1c
        have zf0 := (Tn.box (b := w.heap.size + 1) (by omega) (by omega) (by omega) (OW.out _ (by omega)) 0).2.trans zf0
        have zf1 := (Tn.box (b := w.heap.size + 1) (by omega) (by omega) (by omega) (OW.out _ (by omega)) 1).2.trans zf1
        have LX := Nat.lt_of_lt_of_le LX Tn.size
        have TT := TT.trans Tn
        have SX := SX.below z.h
        have RX := RX.below z.h
        clear Tn
        generalize z.i = X1 at *
        clear z
        go_wp2_with fail
        refine (C2.out _ RX).mono ?_
        rintro e W ⟨rfl, z, rfl⟩
        have Tn : STurn g bm o v.ownBlock _ z.i := STurn.of_below z.h RX.lm
        have q5 := (Tn.box (b := w.heap.size) (by omega) (by omega) (by omega) (OW.out _ (by omega)) 5).1.trans q5
        have z0 := (Tn.box (b := w.heap.size + 1) (by omega) (by omega) (by omega) (OW.out _ (by omega)) 0).1.trans z0
        have z1 := (Tn.box (b := w.heap.size + 1) (by omega) (by omega) (by omega) (OW.out _ (by omega)) 1).1.trans z1
        have h0c := (Tn.box (b := w.heap.size + 2) (by omega) (by omega) (by omega) (OW.out _ (by omega)) 0).1.trans h0c
        have h1c := (Tn.box (b := w.heap.size + 2) (by omega) (by omega) (by omega) (OW.out _ (by omega)) 1).1.trans h1c
        have zf0 := (Tn.box (b := w.heap.size + 1) (by omega) (by omega) (by omega) (OW.out _ (by omega)) 0).2.trans zf0
        have zf1 := (Tn.box (b := w.heap.size + 1) (by omega) (by omega) (by omega) (OW.out _ (by omega)) 1).2.trans zf1
        have LX := Nat.lt_of_lt_of_le LX Tn.size
        have TT := TT.trans Tn
        have SX := SX.below z.h
        have RX := RX.below z.h
        clear Tn
        generalize z.i = X2 at *
        clear z
        go_wp2_with fail
        refine bodyPost_ret (v := .tuple #[.agg #[.int .i64 hs, .int .i64 hg], .bool true]) (by simp [results, Try.results22, go_sem, z0, z1]) rfl ⟨_, _, l, all, v, rfl, HI.out, rfl, Nat.le_succ _, ?_, ?_, ?_, .inl rfl⟩
        · exact (SX.far (by omega) (by omega) _ _).far (by omega) (by omega) _ _
        · exact (RX.setNew (b := w.heap.size + 1) (by omega) (OW.out _ (by omega)) _ _).setNew (b := w.heap.size + 1) (by omega) (OW.out _ (by omega)) _ _
        · exact (TT.setNew (by omega) hlm _ _).setNew (by omega) hlm _ _
      · obtain ⟨bb1, l', all', I', len1, len2, C1, C2⟩ := op_set (ps := ps) (g := g) (B := B) (bm := bm) (o := o) (v := v) (n := n) HI.out (by omega) hs hg x
        have C1 := Lib.hid C1; have C2 := Lib.hid C2; have HI' := Lib.hid I'; clear I'
        go_wp2_with fail
        refine (C1.out _ SX).mono ?_
        rintro e X1 ⟨rfl, hgr, SX⟩
        have Tn : STurn g bm o v.ownBlock _ X1 := STurn.of_grown hgr RX.lm (fun e => hB.2.2.2 e.symm)
        have q5 := (Tn.box (b := w.heap.size) (by omega) (by omega) (by omega) (OW.out _ (by omega)) 5).1.trans q5
        have z0 := (Tn.box (b := w.heap.size + 1) (by omega) (by omega) (by omega) (OW.out _ (by omega)) 0).1.trans z0
        have z1 := (Tn.box (b := w.heap.size + 1) (by omega) (by omega) (by omega) (OW.out _ (by omega)) 1).1.trans z1
        have h0c := (Tn.box (b := w.heap.size + 2) (by omega) (by omega) (by omega) (OW.out _ (by omega)) 0).1.trans h0c
        have h1c := (Tn.box (b := w.heap.size + 2) (by omega) (by omega) (by omega) (OW.out _ (by omega)) 1).1.trans h1c
        have zf0 := (Tn.box (b := w.heap.size + 1) (by omega) (by omega) (by omega) (OW.out _ (by omega)) 0).2.trans zf0
        have zf1 := (Tn.box (b := w.heap.size + 1) (by omega) (by omega) (by omega) (OW.out _ (by omega)) 1).2.trans zf1
        have LX := Nat.lt_of_lt_of_le LX Tn.size
        have TT := TT.trans Tn
        have RX := RX.turn hgr hB.2.1 (fun e => hB.2.2.2 e.symm)
        clear Tn hgr
        go_wp2_with fail
        refine (C2.out _ RX).mono ?_
        rintro e X2 ⟨rfl, hrt, RX⟩
        have Tn : STurn g bm o v.ownBlock _ X2 := STurn.of_rturn hrt
        have q5 := (Tn.box (b := w.heap.size) (by omega) (by omega) (by omega) (OW.out _ (by omega)) 5).1.trans q5
        have z0 := (Tn.box (b := w.heap.size + 1) (by omega) (by omega) (by omega) (OW.out _ (by omega)) 0).1.trans z0
        have z1 := (Tn.box (b := w.heap.size + 1) (by omega) (by omega) (by omega) (OW.out _ (by omega)) 1).1.trans z1
        have h0c := (Tn.box (b := w.heap.size + 2) (by omega) (by omega) (by omega) (OW.out _ (by omega)) 0).1.trans h0c
        have h1c := (Tn.box (b := w.heap.size + 2) (by omega) (by omega) (by omega) (OW.out _ (by omega)) 1).1.trans h1c
        have zf0 := (Tn.box (b := w.heap.size + 1) (by omega) (by omega) (by omega) (OW.out _ (by omega)) 0).2.trans zf0
        have zf1 := (Tn.box (b := w.heap.size + 1) (by omega) (by omega) (by omega) (OW.out _ (by omega)) 1).2.trans zf1
        have LX := Nat.lt_of_lt_of_le LX Tn.size
        have TT := TT.trans Tn
        have SX := SX.rturn hrt hB.2.2.1 hB.2.2.2 (fun e => hpo.out e.symm) (fun e => hgo.out e.symm)
        clear Tn hrt
        go_wp2_with fail
        refine bodyPost_ret (v := .tuple #[.agg #[.int .i64 hs, .int .i64 hg], .bool true]) (by simp [results, Try.results22, go_sem, z0, z1]) rfl ⟨_, _, l', all', v, rfl, HI'.out, len1, by omega, ?_, ?_, ?_, .inl rfl⟩
        · exact (SX.far (by omega) (by omega) _ _).far (by omega) (by omega) _ _
        · exact (RX.setNew (b := w.heap.size + 1) (by omega) (OW.out _ (by omega)) _ _).setNew (b := w.heap.size + 1) (by omega) (OW.out _ (by omega)) _ _
        · exact (TT.setNew (by omega) hlm _ _).setNew (by omega) hlm _ _
      · obtain ⟨xx, bb1, l', all', I', len1, len2, C1, C2⟩ := op_drop (ps := ps) (g := g) (B := B) (bm := bm) (o := o) (v := v) (n := n) HI.out (by omega) hs hg
        have C1 := Lib.hid C1; have C2 := Lib.hid C2; have HI' := Lib.hid I'; clear I'
        go_wp2_with fail
        refine (C1.out _ SX).mono ?_
        rintro e X1 ⟨rfl, hgr, SX⟩
        have Tn : STurn g bm o v.ownBlock _ X1 := STurn.of_grown hgr RX.lm (fun e => hB.2.2.2 e.symm)
        have q5 := (Tn.box (b := w.heap.size) (by omega) (by omega) (by omega) (OW.out _ (by omega)) 5).1.trans q5
        have z0 := (Tn.box (b := w.heap.size + 1) (by omega) (by omega) (by omega) (OW.out _ (by omega)) 0).1.trans z0
        have z1 := (Tn.box (b := w.heap.size + 1) (by omega) (by omega) (by omega) (OW.out _ (by omega)) 1).1.trans z1
        have h0c := (Tn.box (b := w.heap.size + 2) (by omega) (by omega) (by omega) (OW.out _ (by omega)) 0).1.trans h0c
        have h1c := (Tn.box (b := w.heap.size + 2) (by omega) (by omega) (by omega) (OW.out _ (by omega)) 1).1.trans h1c
        have zf0 := (Tn.box (b := w.heap.size + 1) (by omega) (by omega) (by omega) (OW.out _ (by omega)) 0).2.trans zf0
        have zf1 := (Tn.box (b := w.heap.size + 1) (by omega) (by omega) (by omega) (OW.out _ (by omega)) 1).2.trans zf1
        have LX := Nat.lt_of_lt_of_le LX Tn.size
        have TT := TT.trans Tn
        have RX := RX.turn hgr hB.2.1 (fun e => hB.2.2.2 e.symm)
        clear Tn hgr
        go_wp2_with fail
        refine (C2.out _ RX).mono ?_
        rintro e X2 ⟨rfl, hrt, RX⟩
        have Tn : STurn g bm o v.ownBlock _ X2 := STurn.of_rturn hrt
        have q5 := (Tn.box (b := w.heap.size) (by omega) (by omega) (by omega) (OW.out _ (by omega)) 5).1.trans q5
        have z0 := (Tn.box (b := w.heap.size + 1) (by omega) (by omega) (by omega) (OW.out _ (by omega)) 0).1.trans z0
        have z1 := (Tn.box (b := w.heap.size + 1) (by omega) (by omega) (by omega) (OW.out _ (by omega)) 1).1.trans z1
        have h0c := (Tn.box (b := w.heap.size + 2) (by omega) (by omega) (by omega) (OW.out _ (by omega)) 0).1.trans h0c
        have h1c := (Tn.box (b := w.heap.size + 2) (by omega) (by omega) (by omega) (OW.out _ (by omega)) 1).1.trans h1c
        have zf0 := (Tn.box (b := w.heap.size + 1) (by omega) (by omega) (by omega) (OW.out _ (by omega)) 0).2.trans zf0
        have zf1 := (Tn.box (b := w.heap.size + 1) (by omega) (by omega) (by omega) (OW.out _ (by omega)) 1).2.trans zf1
        have LX := Nat.lt_of_lt_of_le LX Tn.size
        have TT := TT.trans Tn
        have SX := SX.rturn hrt hB.2.2.1 hB.2.2.2 (fun e => hpo.out e.symm) (fun e => hgo.out e.symm)
        clear Tn hrt
        go_wp2_with fail
        refine bodyPost_ret (v := .tuple #[.agg #[.int .i64 hs, .int .i64 hg], .bool true]) (by simp [results, Try.results22, go_sem, z0, z1]) rfl ⟨_, _, l', all', v, rfl, HI'.out, len1, by omega, ?_, ?_, ?_, .inl rfl⟩
        · exact (SX.far (by omega) (by omega) _ _).far (by omega) (by omega) _ _
        · exact (RX.setNew (b := w.heap.size + 1) (by omega) (OW.out _ (by omega)) _ _).setNew (b := w.heap.size + 1) (by omega) (OW.out _ (by omega)) _ _
        · exact (TT.setNew (by omega) hlm _ _).setNew (by omega) hlm _ _
      · have C1 := Lib.hid (fun (u : World) (hu : RefAt B u bm o v n all) => op_list HI.out HN.out hl (by omega) u hu)
        have hxs := HI.out.strs
        have SXh := Lib.hid SX; have RXh := Lib.hid RX; have TTh := Lib.hid TT; have HXS := Lib.hid hxs; clear hxs
        have hn1 : bm < X0.heap.size := RX.lm
        go_wp2_with fail
        go_region_with (first | (go_at_call 23; refine Calls.mono (C1.out _ (RXh.out.below (Below.refl _ _).drew)) ?_; rintro e W1 ⟨v1, rfl, b1, own1⟩; have S1 := (SlabAt.drew' SXh.out).below b1; have h0d := (b1.cell (p := ⟨w.heap.size + 2, 0, none⟩) LX).trans h0c; have h1d := (b1.cell (p := ⟨w.heap.size + 2, 1, none⟩) LX).trans h1c) | (go_at_call 26; refine Calls.mono (has_slab HXS.out hl h0 S1 own1) ?_; rintro e W2 ⟨rfl, z2, rfl⟩; have bz := b1.trans (z2.h.mono b1.size); have h0e := (bz.cell (p := ⟨w.heap.size + 2, 0, none⟩) LX).trans h0c; have h1e := (bz.cell (p := ⟨w.heap.size + 2, 1, none⟩) LX).trans h1c; have z0e := (bz.cell (p := ⟨w.heap.size + 1, 0, none⟩) (Nat.lt_of_succ_lt LX)).trans z0; have z1e := (bz.cell (p := ⟨w.heap.size + 1, 1, none⟩) (Nat.lt_of_succ_lt LX)).trans z1; have zf0e := (bz.frozen (p := ⟨w.heap.size + 1, 0, none⟩) (Nat.lt_of_succ_lt LX)).trans zf0; have zf1e := (bz.frozen (p := ⟨w.heap.size + 1, 1, none⟩) (Nat.lt_of_succ_lt LX)).trans zf1))
        all_goals (try go_wp2_with fail)
        all_goals refine bodyPost_ret (v := .tuple #[.agg #[.int .i64 (hs), .int .i64 (hg)], .bool true]) (by simp [results, Try.results22, go_sem, z0e, z1e]) rfl ⟨_, _, l, all, v, rfl, HI.out, rfl, Nat.le_succ _, ?_, ?_, ?_, .inl rfl⟩
        all_goals (have Sz := S1.below z2.h; have Rz := (RXh.out.below (Below.refl _ _).drew).below bz; have Tz : STurn g bm o v.ownBlock w z2.i := (TTh.out.trans (STurn.of_below (Below.refl _ _).drew hn1)).trans (STurn.of_below bz hn1))
        all_goals first | exact (Sz.far (by omega) (by omega) _ _).far (by omega) (by omega) _ _ | exact (Rz.setNew (b := w.heap.size + 1) (by omega) (OW.out _ (by omega)) _ _).setNew (b := w.heap.size + 1) (by omega) (OW.out _ (by omega)) _ _ | exact (Tz.setNew (b := w.heap.size + 1) (by omega) hlm _ _).setNew (b := w.heap.size + 1) (by omega) hlm _ _
    · go_enter Try.func22, Try.ntmps22
      go_wp2_with fail
      refine (K5.out _ (by decide) (by decide)).mono ?_
      rintro e W ⟨rfl, rfl⟩
      have bX : Below w.heap.size w (((w.alloc (.cells #[.int .i64 who, .int .i64 kind, .int .i64 nn, .int .i64 hs, .int .i64 hg, .string x] 67)).alloc (.cells #[.int .i64 0, .int .i64 0] 32)).alloc (.cells #[.int .i64 hs, .int .i64 hg] 32)) := (((Below.refl _ w).alloc (Nat.le_refl _) _).alloc (by simp) _).alloc (by simp; omega) _
      have q5 : (((w.alloc (.cells #[.int .i64 who, .int .i64 kind, .int .i64 nn, .int .i64 hs, .int .i64 hg, .string x] 67)).alloc (.cells #[.int .i64 0, .int .i64 0] 32)).alloc (.cells #[.int .i64 hs, .int .i64 hg] 32)).cell? ⟨w.heap.size, 5, none⟩ = some (.string x) := by simp [go_sem]
      have z0 : (((w.alloc (.cells #[.int .i64 who, .int .i64 kind, .int .i64 nn, .int .i64 hs, .int .i64 hg, .string x] 67)).alloc (.cells #[.int .i64 0, .int .i64 0] 32)).alloc (.cells #[.int .i64 hs, .int .i64 hg] 32)).cell? ⟨w.heap.size + 1, 0, none⟩ = some (.int .i64 0) := by simp [go_sem]
      have z1 : (((w.alloc (.cells #[.int .i64 who, .int .i64 kind, .int .i64 nn, .int .i64 hs, .int .i64 hg, .string x] 67)).alloc (.cells #[.int .i64 0, .int .i64 0] 32)).alloc (.cells #[.int .i64 hs, .int .i64 hg] 32)).cell? ⟨w.heap.size + 1, 1, none⟩ = some (.int .i64 0) := by simp [go_sem]
      have h0c : (((w.alloc (.cells #[.int .i64 who, .int .i64 kind, .int .i64 nn, .int .i64 hs, .int .i64 hg, .string x] 67)).alloc (.cells #[.int .i64 0, .int .i64 0] 32)).alloc (.cells #[.int .i64 hs, .int .i64 hg] 32)).cell? ⟨w.heap.size + 2, 0, none⟩ = some (.int .i64 hs) := by simp [go_sem]
      have h1c : (((w.alloc (.cells #[.int .i64 who, .int .i64 kind, .int .i64 nn, .int .i64 hs, .int .i64 hg, .string x] 67)).alloc (.cells #[.int .i64 0, .int .i64 0] 32)).alloc (.cells #[.int .i64 hs, .int .i64 hg] 32)).cell? ⟨w.heap.size + 2, 1, none⟩ = some (.int .i64 hg) := by simp [go_sem]
      have zf0 : (((w.alloc (.cells #[.int .i64 who, .int .i64 kind, .int .i64 nn, .int .i64 hs, .int .i64 hg, .string x] 67)).alloc (.cells #[.int .i64 0, .int .i64 0] 32)).alloc (.cells #[.int .i64 hs, .int .i64 hg] 32)).frozen? ⟨w.heap.size + 1, 0, none⟩ = false := by simp [go_sem]
      have zf1 : (((w.alloc (.cells #[.int .i64 who, .int .i64 kind, .int .i64 nn, .int .i64 hs, .int .i64 hg, .string x] 67)).alloc (.cells #[.int .i64 0, .int .i64 0] 32)).alloc (.cells #[.int .i64 hs, .int .i64 hg] 32)).frozen? ⟨w.heap.size + 1, 1, none⟩ = false := by simp [go_sem]
      have LX : w.heap.size + 2 < (((w.alloc (.cells #[.int .i64 who, .int .i64 kind, .int .i64 nn, .int .i64 hs, .int .i64 hg, .string x] 67)).alloc (.cells #[.int .i64 0, .int .i64 0] 32)).alloc (.cells #[.int .i64 hs, .int .i64 hg] 32)).heap.size := by simp
      have TT : STurn g bm o v.ownBlock w _ := STurn.of_below bX hlm
      have SX := HS.out.below bX
      have RX := HR.out.below bX
      clear bX
      generalize (((w.alloc (.cells #[.int .i64 who, .int .i64 kind, .int .i64 nn, .int .i64 hs, .int .i64 hg, .string x] 67)).alloc (.cells #[.int .i64 0, .int .i64 0] 32)).alloc (.cells #[.int .i64 hs, .int .i64 hg] 32)) = X0 at *
      have hRc : R = 0 ∨ R = 1 ∨ R = 2 ∨ R = 3 ∨ R = 4 := by omega
      rcases hRc with rfl | rfl | rfl | rfl | rfl
      · obtain ⟨hs', hg', ee, l', all', I', len1, len2, hee, C1, C2⟩ := op_put (ps := ps) (g := g) (B := B) (bm := bm) (o := o) (v := v) (n := n) HI.out HN.out hl h0 hm x
        have C1 := Lib.hid C1; have C2 := Lib.hid C2; have HI' := Lib.hid I'; have HE := Lib.hid hee
        clear I' hee
        go_wp2_with fail
        refine (C1.out _ SX).mono ?_
        rintro e X1 ⟨rfl, hgr, SX⟩
        have Tn : STurn g bm o v.ownBlock _ X1 := STurn.of_grown hgr RX.lm (fun e => hB.2.2.2 e.symm)
        have q5 := (Tn.box (b := w.heap.size) (by omega) (by omega) (by omega) (OW.out _ (by omega)) 5).1.trans q5
        have z0 := (Tn.box (b := w.heap.size + 1) (by omega) (by omega) (by omega) (OW.out _ (by omega)) 0).1.trans z0
        have z1 := (Tn.box (b := w.heap.size + 1) (by omega) (by omega) (by omega) (OW.out _ (by omega)) 1).1.trans z1
        have h0c := (Tn.box (b := w.heap.size + 2) (by omega) (by omega) (by omega) (OW.out _ (by omega)) 0).1.trans h0c
        have h1c := (Tn.box (b := w.heap.size + 2) (by omega) (by omega) (by omega) (OW.out _ (by omega)) 1).1.trans h1c
        have zf0 := (Tn.box (b := w.heap.size + 1) (by omega) (by omega) (by omega) (OW.out _ (by omega)) 0).2.trans zf0
        have zf1 := (Tn.box (b := w.heap.size + 1) (by omega) (by omega) (by omega) (OW.out _ (by omega)) 1).2.trans zf1
        have LX := Nat.lt_of_lt_of_le LX Tn.size
        have TT := TT.trans Tn
        have RX := RX.turn hgr hB.2.1 (fun e => hB.2.2.2 e.symm)
        clear Tn hgr
        have bA : Below X1.heap.size X1 ((X1.alloc (.cells #[.int .i64 hs', .int .i64 hg'] 32)).alloc (.cells #[.int .i64 0, .int .i64 0] 32)) := ((Below.refl _ X1).alloc (Nat.le_refl _) _).alloc (by simp) _
        have Tn : STurn g bm o v.ownBlock X1 ((X1.alloc (.cells #[.int .i64 hs', .int .i64 hg'] 32)).alloc (.cells #[.int .i64 0, .int .i64 0] 32)) := STurn.of_below bA RX.lm
        have p0 : ((X1.alloc (.cells #[.int .i64 hs', .int .i64 hg'] 32)).alloc (.cells #[.int .i64 0, .int .i64 0] 32)).cell? ⟨X1.heap.size, 0, none⟩ = some (.int .i64 hs') := by simp [go_sem]
        have p1 : ((X1.alloc (.cells #[.int .i64 hs', .int .i64 hg'] 32)).alloc (.cells #[.int .i64 0, .int .i64 0] 32)).cell? ⟨X1.heap.size, 1, none⟩ = some (.int .i64 hg') := by simp [go_sem]
        have r0 : ((X1.alloc (.cells #[.int .i64 hs', .int .i64 hg'] 32)).alloc (.cells #[.int .i64 0, .int .i64 0] 32)).cell? ⟨X1.heap.size + 1, 0, none⟩ = some (.int .i64 0) := by simp [go_sem]
        have r1 : ((X1.alloc (.cells #[.int .i64 hs', .int .i64 hg'] 32)).alloc (.cells #[.int .i64 0, .int .i64 0] 32)).cell? ⟨X1.heap.size + 1, 1, none⟩ = some (.int .i64 0) := by simp [go_sem]
        have rf0 : ((X1.alloc (.cells #[.int .i64 hs', .int .i64 hg'] 32)).alloc (.cells #[.int .i64 0, .int .i64 0] 32)).frozen? ⟨X1.heap.size + 1, 0, none⟩ = false := by simp [go_sem]
        have rf1 : ((X1.alloc (.cells #[.int .i64 hs', .int .i64 hg'] 32)).alloc (.cells #[.int .i64 0, .int .i64 0] 32)).frozen? ⟨X1.heap.size + 1, 1, none⟩ = false := by simp [go_sem]
        have LX1 := LX
        have LA : X1.heap.size + 1 < ((X1.alloc (.cells #[.int .i64 hs', .int .i64 hg'] 32)).alloc (.cells #[.int .i64 0, .int .i64 0] 32)).heap.size := by simp
        have q5 := (Tn.box (b := w.heap.size) (by omega) (by omega) (by omega) (OW.out _ (by omega)) 5).1.trans q5
        have z0 := (Tn.box (b := w.heap.size + 1) (by omega) (by omega) (by omega) (OW.out _ (by omega)) 0).1.trans z0
        have z1 := (Tn.box (b := w.heap.size + 1) (by omega) (by omega) (by omega) (OW.out _ (by omega)) 1).1.trans z1
        have h0c := (Tn.box (b := w.heap.size + 2) (by omega) (by omega) (by omega) (OW.out _ (by omega)) 0).1.trans h0c
        have h1c := (Tn.box (b := w.heap.size + 2) (by omega) (by omega) (by omega) (OW.out _ (by omega)) 1).1.trans h1c
        have zf0 := (Tn.box (b := w.heap.size + 1) (by omega) (by omega) (by omega) (OW.out _ (by omega)) 0).2.trans zf0
        have zf1 := (Tn.box (b := w.heap.size + 1) (by omega) (by omega) (by omega) (OW.out _ (by omega)) 1).2.trans zf1
        have LX := Nat.lt_of_lt_of_le LX Tn.size
        have TT := TT.trans Tn
        have SX := SX.below bA; have RX := RX.below bA; clear Tn bA
        go_wp2_with fail
        generalize ((X1.alloc (.cells #[.int .i64 hs', .int .i64 hg'] 32)).alloc (.cells #[.int .i64 0, .int .i64 0] 32)) = X2 at *
        generalize X1.heap.size = b13 at *
        have hw13 : w.heap.size + 2 < b13 := LX1
        refine (C2.out _ RX).mono ?_
        rintro e X3 ⟨rfl, hrt, v', RX3, hv'⟩
        have Tn : STurn g bm o v.ownBlock _ X3 := STurn.of_rturn hrt
        have p0 := (Tn.box (b := b13) (by omega) (by omega) (by omega) (OW.out _ (by omega)) 0).1.trans p0
        have p1 := (Tn.box (b := b13) (by omega) (by omega) (by omega) (OW.out _ (by omega)) 1).1.trans p1
        have r0 := (Tn.box (b := b13 + 1) (by omega) (by omega) (by omega) (OW.out _ (by omega)) 0).1.trans r0
        have r1 := (Tn.box (b := b13 + 1) (by omega) (by omega) (by omega) (OW.out _ (by omega)) 1).1.trans r1
        have rf0 := (Tn.box (b := b13 + 1) (by omega) (by omega) (by omega) (OW.out _ (by omega)) 0).2.trans rf0
        have rf1 := (Tn.box (b := b13 + 1) (by omega) (by omega) (by omega) (OW.out _ (by omega)) 1).2.trans rf1
        have LA3 := Nat.lt_of_lt_of_le LA Tn.size
        have hvown : ∀ k, w.heap.size ≤ k → k < X2.heap.size → some k ≠ v'.ownBlock := fun k h1 h2 e => by
          rcases hv' with h3 | ⟨k', h3, h4⟩
          · exact OW.out k h1 (e.trans h3)
          · rw [h3] at e; injection e with e; omega
        have HVO := Lib.hid hvown; clear hvown
        have LX : w.heap.size + 2 < X2.heap.size := by omega
        have q5 := (Tn.box (b := w.heap.size) (by omega) (by omega) (by omega) (OW.out _ (by omega)) 5).1.trans q5
        have z0 := (Tn.box (b := w.heap.size + 1) (by omega) (by omega) (by omega) (OW.out _ (by omega)) 0).1.trans z0
        have z1 := (Tn.box (b := w.heap.size + 1) (by omega) (by omega) (by omega) (OW.out _ (by omega)) 1).1.trans z1
        have h0c := (Tn.box (b := w.heap.size + 2) (by omega) (by omega) (by omega) (OW.out _ (by omega)) 0).1.trans h0c
        have h1c := (Tn.box (b := w.heap.size + 2) (by omega) (by omega) (by omega) (OW.out _ (by omega)) 1).1.trans h1c
        have zf0 := (Tn.box (b := w.heap.size + 1) (by omega) (by omega) (by omega) (OW.out _ (by omega)) 0).2.trans zf0
        have zf1 := (Tn.box (b := w.heap.size + 1) (by omega) (by omega) (by omega) (OW.out _ (by omega)) 1).2.trans zf1
        have LX := Nat.lt_of_lt_of_le LX Tn.size
        have TT := TT.trans Tn
        have SX := SX.rturn hrt hB.2.2.1 hB.2.2.2 (fun e => hpo.out e.symm) (fun e => hgo.out e.symm)
        have HVV := Lib.hid hv'
        have hsz3 := hrt.size
        clear Tn hrt hv' RX
        have n1 : b13 + 1 ≠ w.heap.size + 1 := by omega
        have n2 : b13 ≠ w.heap.size + 1 := by omega
        have n3 : w.heap.size + 1 ≠ b13 + 1 := by omega
        have n4 : w.heap.size + 1 ≠ b13 := by omega
        have SXd : SlabAt 111 X3.drew ps g l' := ⟨SX.ptr, SX.blk, SX.ne⟩
        have RXd : RefAt B X3.drew bm o v' n all' := RX3.below (Below.refl _ _).drew
        have TTd : STurn g bm o v.ownBlock w X3.drew := TT.trans (STurn.of_below (Below.refl _ _).drew RX3.lm)
        have HVX : some (w.heap.size + 1) ≠ v'.ownBlock := HVO.out _ (by omega) (by omega)
        have HX := Lib.hid HVX; clear HVX
        go_wp2_with fail
        go_region
        all_goals (try go_wp2_with fail)
        all_goals refine bodyPost_ret (v := .tuple #[.agg #[.int .i64 hs', .int .i64 hg'], .bool true]) (by simp [results, Try.results22, go_sem, z0, z1]) rfl ⟨_, _, l', all', v', rfl, HI'.out, len1, len2, ?_, ?_, ?_, HVV.out.imp id (fun ⟨k, h1, h2⟩ => ⟨k, h1, by omega⟩)⟩
        all_goals first | exact SlabAt.drew' ((((SX.far (by omega) (by omega) _ _).far (by omega) (by omega) _ _).far (by omega) (by omega) _ _).far (by omega) (by omega) _ _) | exact ((((RX3.setNew (b := b13 + 1) (by omega) (HVO.out _ (by omega) (by omega)) _ _).setNew (b := b13 + 1) (by omega) (HVO.out _ (by omega) (by omega)) _ _).setNew (b := w.heap.size + 1) (by omega) HX.out _ _).setNew (b := w.heap.size + 1) (by omega) HX.out _ _).below (Below.refl _ _).drew | exact ((((TT.setNew (b := b13 + 1) (by omega) hlm _ _).setNew (b := b13 + 1) (by omega) hlm _ _).setNew (b := w.heap.size + 1) (by omega) hlm _ _).setNew (b := w.heap.size + 1) (by omega) hlm _ _).trans (STurn.of_below (Below.refl _ _).drew (by have := RX3.lm; simp; omega))
      · obtain ⟨xx, bb1, C1, C2⟩ := op_get (ps := ps) (g := g) (B := B) (bm := bm) (o := o) (v := v) (n := n) HI.out (by omega) hs hg
        have C1 := Lib.hid C1; have C2 := Lib.hid C2
        go_wp2_with fail
        refine (C1.out _ SX).mono ?_
        rintro e W ⟨rfl, z, rfl⟩
        have Tn : STurn g bm o v.ownBlock _ z.i := STurn.of_below z.h RX.lm
        have q5 := (Tn.box (b := w.heap.size) (by omega) (by omega) (by omega) (OW.out _ (by omega)) 5).1.trans q5
        have z0 := (Tn.box (b := w.heap.size + 1) (by omega) (by omega) (by omega) (OW.out _ (by omega)) 0).1.trans z0
        have z1 := (Tn.box (b := w.heap.size + 1) (by omega) (by omega) (by omega) (OW.out _ (by omega)) 1).1.trans z1
        have h0c := (Tn.box (b := w.heap.size + 2) (by omega) (by omega) (by omega) (OW.out _ (by omega)) 0).1.trans h0c
        have h1c := (Tn.box (b := w.heap.size + 2) (by omega) (by omega) (by omega) (OW.out _ (by omega)) 1).1.trans h1c
        have zf0 := (Tn.box (b := w.heap.size + 1) (by omega) (by omega) (by omega) (OW.out _ (by omega)) 0).2.trans zf0
        have zf1 := (Tn.box (b := w.heap.size + 1) (by omega) (by omega) (by omega) (OW.out _ (by omega)) 1).2.trans zf1
        have LX := Nat.lt_of_lt_of_le LX Tn.size
        have TT := TT.trans Tn
        have SX := SX.below z.h
        have RX := RX.below z.h
        clear Tn
        generalize z.i = X1 at *
        clear z
        go_wp2_with fail
        refine (C2.out _ RX).mono ?_
        rintro e W ⟨rfl, z, rfl⟩
        have Tn : STurn g bm o v.ownBlock _ z.i := STurn.of_below z.h RX.lm
        have q5 := (Tn.box (b := w.heap.size) (by omega) (by omega) (by omega) (OW.out _ (by omega)) 5).1.trans q5
        have z0 := (Tn.box (b := w.heap.size + 1) (by omega) (by omega) (by omega) (OW.out _ (by omega)) 0).1.trans z0
        have z1 := (Tn.box (b := w.heap.size + 1) (by omega) (by omega) (by omega) (OW.out _ (by omega)) 1).1.trans z1
        have h0c := (Tn.box (b := w.heap.size + 2) (by omega) (by omega) (by omega) (OW.out _ (by omega)) 0).1.trans h0c
        have h1c := (Tn.box (b := w.heap.size + 2) (by omega) (by omega) (by omega) (OW.out _ (by omega)) 1).1.trans h1c
        have zf0 := (Tn.box (b := w.heap.size + 1) (by omega) (by omega) (by omega) (OW.out _ (by omega)) 0).2.trans zf0
        have zf1 := (Tn.box (b := w.heap.size + 1) (by omega) (by omega) (by omega) (OW.out _ (by omega)) 1).2.trans zf1
        have LX := Nat.lt_of_lt_of_le LX Tn.size
        have TT := TT.trans Tn
        have SX := SX.below z.h
        have RX := RX.below z.h
        clear Tn
        generalize z.i = X2 at *
        clear z
        go_wp2_with fail
        refine bodyPost_ret (v := .tuple #[.agg #[.int .i64 hs, .int .i64 hg], .bool true]) (by simp [results, Try.results22, go_sem, z0, z1]) rfl ⟨_, _, l, all, v, rfl, HI.out, rfl, Nat.le_succ _, ?_, ?_, ?_, .inl rfl⟩
        · exact (SX.far (by omega) (by omega) _ _).far (by omega) (by omega) _ _
        · exact (RX.setNew (b := w.heap.size + 1) (by omega) (OW.out _ (by omega)) _ _).setNew (b := w.heap.size + 1) (by omega) (OW.out _ (by omega)) _ _
        · exact (TT.setNew (by omega) hlm _ _).setNew (by omega) hlm _ _
      · obtain ⟨bb1, l', all', I', len1, len2, C1, C2⟩ := op_set (ps := ps) (g := g) (B := B) (bm := bm) (o := o) (v := v) (n := n) HI.out (by omega) hs hg x
        have C1 := Lib.hid C1; have C2 := Lib.hid C2; have HI' := Lib.hid I'; clear I'
        go_wp2_with fail
        refine (C1.out _ SX).mono ?_
        rintro e X1 ⟨rfl, hgr, SX⟩
        have Tn : STurn g bm o v.ownBlock _ X1 := STurn.of_grown hgr RX.lm (fun e => hB.2.2.2 e.symm)
        have q5 := (Tn.box (b := w.heap.size) (by omega) (by omega) (by omega) (OW.out _ (by omega)) 5).1.trans q5
        have z0 := (Tn.box (b := w.heap.size + 1) (by omega) (by omega) (by omega) (OW.out _ (by omega)) 0).1.trans z0
        have z1 := (Tn.box (b := w.heap.size + 1) (by omega) (by omega) (by omega) (OW.out _ (by omega)) 1).1.trans z1
        have h0c := (Tn.box (b := w.heap.size + 2) (by omega) (by omega) (by omega) (OW.out _ (by omega)) 0).1.trans h0c
        have h1c := (Tn.box (b := w.heap.size + 2) (by omega) (by omega) (by omega) (OW.out _ (by omega)) 1).1.trans h1c
        have zf0 := (Tn.box (b := w.heap.size + 1) (by omega) (by omega) (by omega) (OW.out _ (by omega)) 0).2.trans zf0
        have zf1 := (Tn.box (b := w.heap.size + 1) (by omega) (by omega) (by omega) (OW.out _ (by omega)) 1).2.trans zf1
        have LX := Nat.lt_of_lt_of_le LX Tn.size
        have TT := TT.trans Tn
        have RX := RX.turn hgr hB.2.1 (fun e => hB.2.2.2 e.symm)
        clear Tn hgr
        go_wp2_with fail
        refine (C2.out _ RX).mono ?_
        rintro e X2 ⟨rfl, hrt, RX⟩
        have Tn : STurn g bm o v.ownBlock _ X2 := STurn.of_rturn hrt
        have q5 := (Tn.box (b := w.heap.size) (by omega) (by omega) (by omega) (OW.out _ (by omega)) 5).1.trans q5
        have z0 := (Tn.box (b := w.heap.size + 1) (by omega) (by omega) (by omega) (OW.out _ (by omega)) 0).1.trans z0
        have z1 := (Tn.box (b := w.heap.size + 1) (by omega) (by omega) (by omega) (OW.out _ (by omega)) 1).1.trans z1
        have h0c := (Tn.box (b := w.heap.size + 2) (by omega) (by omega) (by omega) (OW.out _ (by omega)) 0).1.trans h0c
        have h1c := (Tn.box (b := w.heap.size + 2) (by omega) (by omega) (by omega) (OW.out _ (by omega)) 1).1.trans h1c
        have zf0 := (Tn.box (b := w.heap.size + 1) (by omega) (by omega) (by omega) (OW.out _ (by omega)) 0).2.trans zf0
        have zf1 := (Tn.box (b := w.heap.size + 1) (by omega) (by omega) (by omega) (OW.out _ (by omega)) 1).2.trans zf1
        have LX := Nat.lt_of_lt_of_le LX Tn.size
        have TT := TT.trans Tn
        have SX := SX.rturn hrt hB.2.2.1 hB.2.2.2 (fun e => hpo.out e.symm) (fun e => hgo.out e.symm)
        clear Tn hrt
        go_wp2_with fail
        refine bodyPost_ret (v := .tuple #[.agg #[.int .i64 hs, .int .i64 hg], .bool true]) (by simp [results, Try.results22, go_sem, z0, z1]) rfl ⟨_, _, l', all', v, rfl, HI'.out, len1, by omega, ?_, ?_, ?_, .inl rfl⟩
        · exact (SX.far (by omega) (by omega) _ _).far (by omega) (by omega) _ _
        · exact (RX.setNew (b := w.heap.size + 1) (by omega) (OW.out _ (by omega)) _ _).setNew (b := w.heap.size + 1) (by omega) (OW.out _ (by omega)) _ _
        · exact (TT.setNew (by omega) hlm _ _).setNew (by omega) hlm _ _
      · obtain ⟨xx, bb1, l', all', I', len1, len2, C1, C2⟩ := op_drop (ps := ps) (g := g) (B := B) (bm := bm) (o := o) (v := v) (n := n) HI.out (by omega) hs hg
        have C1 := Lib.hid C1; have C2 := Lib.hid C2; have HI' := Lib.hid I'; clear I'
        go_wp2_with fail
        refine (C1.out _ SX).mono ?_
        rintro e X1 ⟨rfl, hgr, SX⟩
        have Tn : STurn g bm o v.ownBlock _ X1 := STurn.of_grown hgr RX.lm (fun e => hB.2.2.2 e.symm)
        have q5 := (Tn.box (b := w.heap.size) (by omega) (by omega) (by omega) (OW.out _ (by omega)) 5).1.trans q5
        have z0 := (Tn.box (b := w.heap.size + 1) (by omega) (by omega) (by omega) (OW.out _ (by omega)) 0).1.trans z0
        have z1 := (Tn.box (b := w.heap.size + 1) (by omega) (by omega) (by omega) (OW.out _ (by omega)) 1).1.trans z1
        have h0c := (Tn.box (b := w.heap.size + 2) (by omega) (by omega) (by omega) (OW.out _ (by omega)) 0).1.trans h0c
        have h1c := (Tn.box (b := w.heap.size + 2) (by omega) (by omega) (by omega) (OW.out _ (by omega)) 1).1.trans h1c
        have zf0 := (Tn.box (b := w.heap.size + 1) (by omega) (by omega) (by omega) (OW.out _ (by omega)) 0).2.trans zf0
        have zf1 := (Tn.box (b := w.heap.size + 1) (by omega) (by omega) (by omega) (OW.out _ (by omega)) 1).2.trans zf1
        have LX := Nat.lt_of_lt_of_le LX Tn.size
        have TT := TT.trans Tn
        have RX := RX.turn hgr hB.2.1 (fun e => hB.2.2.2 e.symm)
        clear Tn hgr
        go_wp2_with fail
        refine (C2.out _ RX).mono ?_
        rintro e X2 ⟨rfl, hrt, RX⟩
        have Tn : STurn g bm o v.ownBlock _ X2 := STurn.of_rturn hrt
        have q5 := (Tn.box (b := w.heap.size) (by omega) (by omega) (by omega) (OW.out _ (by omega)) 5).1.trans q5
        have z0 := (Tn.box (b := w.heap.size + 1) (by omega) (by omega) (by omega) (OW.out _ (by omega)) 0).1.trans z0
        have z1 := (Tn.box (b := w.heap.size + 1) (by omega) (by omega) (by omega) (OW.out _ (by omega)) 1).1.trans z1
        have h0c := (Tn.box (b := w.heap.size + 2) (by omega) (by omega) (by omega) (OW.out _ (by omega)) 0).1.trans h0c
        have h1c := (Tn.box (b := w.heap.size + 2) (by omega) (by omega) (by omega) (OW.out _ (by omega)) 1).1.trans h1c
        have zf0 := (Tn.box (b := w.heap.size + 1) (by omega) (by omega) (by omega) (OW.out _ (by omega)) 0).2.trans zf0
        have zf1 := (Tn.box (b := w.heap.size + 1) (by omega) (by omega) (by omega) (OW.out _ (by omega)) 1).2.trans zf1
        have LX := Nat.lt_of_lt_of_le LX Tn.size
        have TT := TT.trans Tn
        have SX := SX.rturn hrt hB.2.2.1 hB.2.2.2 (fun e => hpo.out e.symm) (fun e => hgo.out e.symm)
        clear Tn hrt
        go_wp2_with fail
        refine bodyPost_ret (v := .tuple #[.agg #[.int .i64 hs, .int .i64 hg], .bool true]) (by simp [results, Try.results22, go_sem, z0, z1]) rfl ⟨_, _, l', all', v, rfl, HI'.out, len1, by omega, ?_, ?_, ?_, .inl rfl⟩
        · exact (SX.far (by omega) (by omega) _ _).far (by omega) (by omega) _ _
        · exact (RX.setNew (b := w.heap.size + 1) (by omega) (OW.out _ (by omega)) _ _).setNew (b := w.heap.size + 1) (by omega) (OW.out _ (by omega)) _ _
        · exact (TT.setNew (by omega) hlm _ _).setNew (by omega) hlm _ _
      · have C1 := Lib.hid (fun (u : World) (hu : RefAt B u bm o v n all) => op_list HI.out HN.out hl (by omega) u hu)
        have hxs := HI.out.strs
        have SXh := Lib.hid SX; have RXh := Lib.hid RX; have TTh := Lib.hid TT; have HXS := Lib.hid hxs; clear hxs
        have hn1 : bm < X0.heap.size := RX.lm
        go_wp2_with fail
        go_region_with (first | (go_at_call 23; refine Calls.mono (C1.out _ (RXh.out.below (Below.refl _ _).drew)) ?_; rintro e W1 ⟨v1, rfl, b1, own1⟩; have S1 := (SlabAt.drew' SXh.out).below b1; have h0d := (b1.cell (p := ⟨w.heap.size + 2, 0, none⟩) LX).trans h0c; have h1d := (b1.cell (p := ⟨w.heap.size + 2, 1, none⟩) LX).trans h1c) | (go_at_call 26; refine Calls.mono (has_slab HXS.out hl h0 S1 own1) ?_; rintro e W2 ⟨rfl, z2, rfl⟩; have bz := b1.trans (z2.h.mono b1.size); have h0e := (bz.cell (p := ⟨w.heap.size + 2, 0, none⟩) LX).trans h0c; have h1e := (bz.cell (p := ⟨w.heap.size + 2, 1, none⟩) LX).trans h1c; have z0e := (bz.cell (p := ⟨w.heap.size + 1, 0, none⟩) (Nat.lt_of_succ_lt LX)).trans z0; have z1e := (bz.cell (p := ⟨w.heap.size + 1, 1, none⟩) (Nat.lt_of_succ_lt LX)).trans z1; have zf0e := (bz.frozen (p := ⟨w.heap.size + 1, 0, none⟩) (Nat.lt_of_succ_lt LX)).trans zf0; have zf1e := (bz.frozen (p := ⟨w.heap.size + 1, 1, none⟩) (Nat.lt_of_succ_lt LX)).trans zf1))
        all_goals (try go_wp2_with fail)
        all_goals refine bodyPost_ret (v := .tuple #[.agg #[.int .i64 (hs), .int .i64 (hg)], .bool true]) (by simp [results, Try.results22, go_sem, z0e, z1e]) rfl ⟨_, _, l, all, v, rfl, HI.out, rfl, Nat.le_succ _, ?_, ?_, ?_, .inl rfl⟩
        all_goals (have Sz := S1.below z2.h; have Rz := (RXh.out.below (Below.refl _ _).drew).below bz; have Tz : STurn g bm o v.ownBlock w z2.i := (TTh.out.trans (STurn.of_below (Below.refl _ _).drew hn1)).trans (STurn.of_below bz hn1))
        all_goals first | exact (Sz.far (by omega) (by omega) _ _).far (by omega) (by omega) _ _ | exact (Rz.setNew (b := w.heap.size + 1) (by omega) (OW.out _ (by omega)) _ _).setNew (b := w.heap.size + 1) (by omega) (OW.out _ (by omega)) _ _ | exact (Tz.setNew (b := w.heap.size + 1) (by omega) hlm _ _).setNew (b := w.heap.size + 1) (by omega) hlm _ _
end
end Go.Proofs.Ytpnegofmebfcgaa
