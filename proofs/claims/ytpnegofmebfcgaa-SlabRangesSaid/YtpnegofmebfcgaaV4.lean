/- Slab: memory of Ranges, third part: a step inside the range. -/
import Derived.Test.YtpnegofmebfcgaaV2
namespace Go.Proofs.Ytpnegofmebfcgaa
open Go.RowKit Go.Shelf
set_option linter.unusedVariables false
set_option linter.unusedSimpArgs false

section
variable {n0 B b9 bm bE b14 : Nat} {during : Value} {w w' : World} {x14 v14 v : Value} {S : Nat} {l l' : List SL} {all all' : List HV} {told : List (Int × Int)}
theorem RM.far2 (h : RM n0 B b9 bm bE b14 during w x14 v14 v S l all told) {b : Nat} (hB : B ≤ b) (h1 : some b ≠ v.ownBlock) (h2 : some b ≠ v14.ownBlock) (i : Nat) (u : Value) : RM n0 B b9 bm bE b14 during (w.setCell ⟨b, i, none⟩ u) x14 v14 v S l all told := by
  obtain ⟨o1, o2, o3, o4, o5, o6⟩ := h.ord
  have hb : ∀ k, k < B → (w.setCell ⟨b, i, none⟩ u).heap[k]? = w.heap[k]? := fun k hk => Below.heap_setCell w ⟨b, i, none⟩ u k (by show k ≠ b; omega)
  obtain ⟨a1, a2, a3, a4, a5⟩ := h.boxes (w' := w.setCell ⟨b, i, none⟩ u) (fun k hk _ _ _ => hb k hk)
  exact ⟨h.slab.far (by omega) (by omega) i u, h.ref.setNew (by omega) h1 i u, a1, a2, a3, a4, a5, ownsRow_setCell_other h.r14 (fun e => h2 e.symm) u, h.ne, o1, o2, o3, o4, o5, by simpa using o6⟩
theorem RM.own (h : RM n0 B b9 bm bE b14 during w x14 v14 v S l all told) {b : Nat} (hb : w.heap.size ≤ b) : some b ≠ v.ownBlock ∧ some b ≠ v14.ownBlock :=
  ⟨fun e => by have := (h.ref.row.lt b e.symm).2; omega, fun e => by have := (h.r14.lt b e.symm).2; omega⟩
theorem RM.drew (h : RM n0 B b9 bm bE b14 during w x14 v14 v S l all told) : RM n0 B b9 bm bE b14 during w.drew x14 v14 v S l all told := h.below (Below.refl _ _).drew
theorem RM.told_ (h : RM n0 B b9 bm bE b14 during w x14 v14 v S l all told) : ∃ A c, v14 = .slice A told.length c ∧ (0 < told.length → ∃ k, A = some ⟨k, 0, none⟩ ∧ B ≤ k ∧ k < w.heap.size) := by
  rcases Nat.eq_zero_or_pos told.length with h0 | h0
  · rcases h.r14.2 with ⟨hv, _⟩ | ⟨g, cap, cur, hv, _⟩
    · exact ⟨none, 0, by rw [hv, h0], fun h => absurd h (by omega)⟩
    · exact ⟨_, _, hv, fun h => absurd h (by omega)⟩
  · obtain ⟨k, c, rfl, h1, h2⟩ := h.r14.form h0
    exact ⟨_, _, rfl, fun _ => ⟨k, rfl, h1, h2⟩⟩
theorem RM.at14 {k c m : Nat} (h : RM n0 B b9 bm bE b14 during w x14 (.slice (some ⟨k, 0, none⟩) m c) v S l all told) {i : Nat} {p : Int × Int} (hp : told[i]? = some p) :
    w.cell? ⟨k, i * 2, none⟩ = some (.int .i64 p.1) ∧ w.cell? ⟨k, i * 2 + 1, none⟩ = some (.int .i64 p.2) := by
  have hi := (List.getElem?_eq_some_iff.1 hp).1
  obtain ⟨k', c', e', _, _⟩ := h.r14.form (by omega)
  injection e' with e1 e2 e3
  injection e1 with e1
  injection e1 with e1
  subst e1 e2
  obtain ⟨a0, a1⟩ := hcells_at told i p hp
  exact ⟨by rw [h.r14.cellAt _ (by omega)]; exact a0, by rw [h.r14.cellAt _ (by omega)]; exact a1⟩
theorem RM.rd14 (h : RM n0 B b9 bm bE b14 during w x14 v14 v S l all told) {A : Option Addr} {n c : Nat} (e : v14 = .slice A n c) (hn : told.length = n) : Rd hcell 2 w w.heap.size A n told := by
  refine ⟨hn, fun h0 => ?_⟩
  obtain ⟨A', c', e', hA'⟩ := h.told_
  rw [e'] at e
  injection e with e1 e2 e3
  subst e1
  obtain ⟨k, rfl, h1, h2⟩ := hA' (by omega)
  refine ⟨k, 0, rfl, h2, fun i x hx j u hu => ?_⟩
  have h' := h
  rw [e'] at h'
  obtain ⟨a0, a1⟩ := h'.at14 hx
  rw [Nat.zero_add]
  match j with
  | 0 => cases hu; exact a0
  | 1 => cases hu; exact a1
  | j + 2 => simp [hcell] at hu
end
theorem both_block {wo X W : World} (j : Nat) (hj : j < 2) (hk : wo.heap.size < X.heap.size → W.heap[wo.heap.size]? = X.heap[wo.heap.size]?) (hX : X.heap = wo.heap ∨ X.heap = (wo.alloc (.cells #[.int .i64 0, .int .i64 0] 32)).heap) :
    W.cell? ⟨wo.heap.size, j, none⟩ = (if wo.heap.size < X.heap.size then some (.int .i64 0) else W.cell? ⟨wo.heap.size, j, none⟩) ∧ (W.frozen? ⟨wo.heap.size, j, none⟩ = (if wo.heap.size < X.heap.size then false else W.frozen? ⟨wo.heap.size, j, none⟩)) := by
  rcases hX with h | h
  · rw [h, if_neg (Nat.lt_irrefl _), if_neg (Nat.lt_irrefl _)]; exact ⟨rfl, rfl⟩
  · have hl : wo.heap.size < X.heap.size := by rw [h]; simp
    have hh : W.heap[wo.heap.size]? = some (.cells #[.int .i64 0, .int .i64 0] 32 (0, 0)) := (hk hl).trans (by rw [h]; exact heap_alloc_new wo _)
    rw [if_pos hl, if_pos hl]
    match j, hj with
    | 0, _ => exact ⟨by simp [World.cell?, hh], by simp [World.frozen?, hh]⟩
    | 1, _ => exact ⟨by simp [World.cell?, hh], by simp [World.frozen?, hh]⟩
theorem both_cell {wo X W : World} {g : Nat} (j : Nat) (hj : j < 2) (hgr : X.grownBy W (some g)) (hg : g < wo.heap.size) (hX : X.heap = wo.heap ∨ X.heap = (wo.alloc (.cells #[.int .i64 0, .int .i64 0] 32)).heap) :
    W.cell? ⟨wo.heap.size, j, none⟩ = (if wo.heap.size < X.heap.size then some (.int .i64 0) else W.cell? ⟨wo.heap.size, j, none⟩) ∧ (W.frozen? ⟨wo.heap.size, j, none⟩ = (if wo.heap.size < X.heap.size then false else W.frozen? ⟨wo.heap.size, j, none⟩)) :=
  both_block j hj (fun hl => hgr.block wo.heap.size hl (fun e => by injection e with e; omega)) hX
theorem set_two {W : World} {b : Nat} {u0 u1 : Value} (h0 : W.cell? ⟨b, 0, none⟩ = some u0) (h1 : W.cell? ⟨b, 1, none⟩ = some u1) (x y : Value) :
    ((W.setCell ⟨b, 0, none⟩ x).setCell ⟨b, 1, none⟩ y).cell? ⟨b, 0, none⟩ = some x ∧ ((W.setCell ⟨b, 0, none⟩ x).setCell ⟨b, 1, none⟩ y).cell? ⟨b, 1, none⟩ = some y :=
  ⟨(World.cell?_setCell_other _ _ _ _ (by simp)).trans (World.cell?_setCell_same' _ _ _ (by rw [h0]; rfl)), World.cell?_setCell_same' _ _ _ (by rw [World.cell?_setCell_other _ _ _ _ (by simp), h1]; rfl)⟩
theorem size_drew (w : World) : w.drew.heap.size = w.heap.size := rfl

section
variable {n0 B b9 bm bE b14 b22 b23 bW : Nat} {during v14 vw : Value} {S : Nat} {told : List (Int × Int)} {L : List HV} {w w' : World} {v : Value} {l l' : List SL} {all all' : List HV} {k : Nat}
theorem BM.far2 (h : BM n0 B b9 bm bE b14 b22 b23 bW during v14 vw S told L w v l all k) {b : Nat} (hB : B ≤ b) (h1 : some b ≠ v.ownBlock) (h2 : some b ≠ v14.ownBlock) (h3 : some b ≠ vw.ownBlock) (h4 : b22 ≠ b) (h5 : b23 ≠ b) (i : Nat) (u : Value) :
    BM n0 B b9 bm bE b14 b22 b23 bW during v14 vw S told L (w.setCell ⟨b, i, none⟩ u) v l all k :=
  ⟨h.rm.far2 hB h1 h2 i u, (Below.heap_setCell w ⟨b, i, none⟩ u b22 h4).trans h.b22_, (Below.heap_setCell w ⟨b, i, none⟩ u b23 h5).trans h.b23_, ownsRow_setCell_other h.row (fun e => h3 e.symm) u, h.ne, h.ord⟩
/-- what a step leaves, said of the round's world -/
structure StepEnd (n0 B b9 bm bE b14 b22 b23 bW : Nat) (during v14 vw : Value) (S : Nat) (told : List (Int × Int)) (L : List HV) (k N : Nat) (w0 W u w' : World) (la : Nat) (l3 : List SL) (all3 : List HV) (v3 : Value) : Prop where
  I : RInv l3 all3
  len : l3.length = S
  lenA : all3.length ≤ la + 1
  M : BM n0 B b9 bm bE b14 b22 b23 bW during v14 vw S told L w' v3 l3 all3 k
  b : Below n0 w0 w'
  kf : KeepsFrom N W w'
  kn : KN 111 N W w'
  sz : W.heap.size ≤ w'.heap.size
  old : W.heap.size < u.heap.size → w'.heap[W.heap.size]? = u.heap[W.heap.size]?
  ne : W.heap.size < u.heap.size → some W.heap.size ≠ v3.ownBlock
  nes : some W.heap.size ≠ v14.ownBlock ∧ some W.heap.size ≠ vw.ownBlock ∧ b22 < W.heap.size ∧ b23 < W.heap.size ∧ B ≤ W.heap.size
theorem bm_step {w0 : World} {W : World} (M : BM n0 B b9 bm bE b14 b22 b23 bW during v14 vw S told L W v l all k) (I : RInv l all) (hl : l.length = S) (hS0 : 0 < S) (hS : S ≤ 4096) (hm : all.length ≤ 1048576) (hb : Below n0 w0 W) (hn0 : n0 ≤ W.heap.size) (op : OpV)
    {A7 : Option Addr} {TT c7 : Nat} (e : v14 = .slice A7 TT c7) (hT : told.length = TT) (hTm : TT ≤ 9223372036854775807) {N : Nat} (hN : n0 + 2 < N ∧ bm < N) (u : World) (hu : Below W.heap.size W u) :
    Calls Try.prog 22 #[.pointer (some ⟨n0 + 3, 0, none⟩), .pointer (some ⟨bm, 0, none⟩), .agg #[.int .i64 op.who, .int .i64 op.kind, .int .i64 op.n, .int .i64 op.hs, .int .i64 op.hg, .string op.x], .slice A7 TT c7, .bool true] u (fun r w' => ∃ (hs hg : Int) (l3 : List SL) (all3 : List HV) (v3 : Value), r = .returned (.tuple #[.agg #[.int .i64 hs, .int .i64 hg], .bool true]) ∧
      StepEnd n0 B b9 bm bE b14 b22 b23 bW during v14 vw S told L k N w0 W u w' all.length l3 all3 v3) := by
  obtain ⟨o1, o2, o3, o4, o5, o6⟩ := M.rm.ord
  have Mu := M.below hu
  refine (step_ok B (n0 + 3) (n0 + 2) bm 0 v (S : Int) l all op A7 TT c7 told u I (by omega) (by omega) (by omega) hm Mu.rm.slab Mu.rm.ref ⟨by omega, by omega, by omega, by omega⟩ (Mu.rm.rd14 e hT) hTm).mono ?_
  rintro r w' ⟨hs, hg, l3, all3, v3, rfl, I3, len3, lenA, hS3, hR3, hST, hv3⟩
  have szu := hu.size
  have hvl : ∀ j, v.ownBlock = some j → B ≤ j ∧ j < W.heap.size := fun j hj => M.rm.ref.row.lt j hj
  have hvne : some W.heap.size ≠ v.ownBlock := fun e => by have := (hvl _ e.symm).2; omega
  refine ⟨hs, hg, l3, all3, v3, rfl, I3, by omega, lenA, Mu.step hST hS3 hR3 hv3, ?_, ?_, ?_, Nat.le_trans szu hST.size, ?_, ?_, ?_⟩
  · exact Below.sturn (hb.trans (hu.mono hn0)) hST (by omega) (by omega) (by omega) (fun j hj => by have := (hvl j hj).1; omega)
  · exact (KeepsFrom.of_grownBy (row := none) (below_grown hu) (fun j e => by cases e)).trans (KeepsFrom.sturn hST hN.1 hN.2 Mu.rm.ref)
  · exact (KN.below hu).trans (KN.sturn hST hN.1 hN.2 Mu.rm.ref)
  · exact fun hlt => hST.block _ hlt (by omega) (by omega) hvne
  · intro hlt e
    rcases hv3 with h | ⟨j, h, h2⟩
    · exact hvne (e.trans h)
    · rw [h] at e; injection e with e; omega
  · obtain ⟨p1, p2, p3⟩ := M.ord
    refine ⟨fun e => by have := (M.rm.r14.lt _ e.symm).2; omega, fun e => by have := (M.row.lt _ e.symm).2; omega, M.b22_.lt, M.b23_.lt, by omega⟩
end
end Go.Proofs.Ytpnegofmebfcgaa
