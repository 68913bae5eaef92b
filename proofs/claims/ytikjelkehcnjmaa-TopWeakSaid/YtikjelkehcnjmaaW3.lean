/- Top: heaviest, walked. -/
import Derived.Test.YtikjelkehcnjmaaW2
import Derived.Lib.MinMax
namespace Go.Proofs.Ytikjelkehcnjmaa
open Go.RowKit
set_option linter.unusedVariables false
set_option linter.unusedSimpArgs false
theorem size3 : (Try.prog.info? 3).map (·.size) = some 1 := by kernel_rfl
theorem size4 : (Try.prog.info? 4).map (·.size) = some 1 := by kernel_rfl
theorem wpList_put {P : Program} {ops : Array Oper} {rest : List Oper} {o : Oper} {a : Act} {w w0 : World} {Q : Exit → Act → World → Prop} {bs : List (Nat × Obj)} (hgd : o.guard = none) (ty : TypeId) (x y : Operand) (ho : o.op = .store ty x y) (b off : Nat) (hx : a.eval x = .pointer (some ⟨b, off, none⟩)) (v : Value) (hy : a.eval y = v)
    (S : Mem w0 w bs) (i : Nat) {cs : Array Value} {t : TypeId} (hi : bs[i]? = some (b, .cells cs t (0, 0))) (hof : off < cs.size) (hsz : (P.info? ty).map (·.size) = some 1) (hv : v.cells = #[v]) (h1 : v.oneCell' = true) (c' : Array Value) (hc : cs.setIfInBounds off v = c')
    (h : ∀ w', Mem w0 w' (bs.set i (b, .cells c' t (0, 0))) → wpList P ops Q rest (a.put o.dst undef) w') : wpList P ops Q (o :: rest) a w := by
  subst hc
  exact wpList_store1 hgd ty x y ho b off hx v hy (S.at i hi) hof hsz hv h1 (h _ (S.set i hi _))
/-- a table that lies in block tb -/
def Tab (w : World) (tb m k : Nat) (W : Nat → Nat → Int) : Prop := w.heap[tb]? = some (.cells (tarr m k W) 57 (0, 0))
theorem Tab.rows {w : World} {tb m k : Nat} {W : Nat → Nat → Int} (h : Tab w tb m k W) : w.cell? ⟨tb, 0, none⟩ = some (.int .i64 m) := by rw [cell_of_row w tb 0 _ _ _ h]; rfl
theorem Tab.cols {w : World} {tb m k : Nat} {W : Nat → Nat → Int} (h : Tab w tb m k W) : w.cell? ⟨tb, 1, none⟩ = some (.int .i64 k) := by rw [cell_of_row w tb 1 _ _ _ h]; rfl
theorem Tab.w {w : World} {tb m k : Nat} {W : Nat → Nat → Int} (h : Tab w tb m k W) {r c : Nat} (hr : r < 64) (hc : c < 64) {j : Nat} (hj : j = 2 + r * 64 + c) : w.cell? ⟨tb, j, none⟩ = some (.int .i64 (W r c)) := by
  subst hj
  rw [cell_of_row w tb _ _ _ _ h, tarr, List.getElem?_toArray, show 2 + r * 64 + c = (r * 64 + c) + 2 by omega, List.getElem?_cons_succ, List.getElem?_cons_succ, vl_get _ _ _ _ (by omega)]
  have e1 : (0 + (r * 64 + c)) / 64 = r := by omega
  have e2 : (0 + (r * 64 + c)) % 64 = c := by omega
  simp only [e1, e2]
theorem Tab.below {w u : World} {tb m k : Nat} {W : Nat → Nat → Int} {B : Nat} (h : Tab w tb m k W) (hb : Below B w u) (ht : tb < B) : Tab u tb m k W := (hb.block tb ht).trans h
def toI (f : Nat → Option Nat) (r : Nat) : Int := match f r with | none => -1 | some c => c
theorem iarr_setn {n : Nat} (p : Nat → Nat) {j : Nat} (h : j < n) (x : Nat) : (iarr n fun c => (p c : Int)).setIfInBounds j (.int .i64 x) = iarr n fun c => (upn p j x c : Int) := by
  rw [iarr_set _ h]
  exact iarr_congr fun i _ => by unfold up upn; by_cases e : i = j <;> simp [e]
theorem fill_step {n j : Nat} (h : j < n) : (iarr n fun i => if i < j then FAR else 0).setIfInBounds j (.int .i64 1152921504606846976) = iarr n fun i => if i < j + 1 then FAR else 0 := by
  rw [iarr_set _ h]
  exact iarr_congr fun i _ => by
    unfold up
    by_cases e : i = j
    · subst e; simp [FAR]
    · by_cases e2 : i < j
      · simp [e, e2, show i < j + 1 by omega]
      · simp [e, e2, show ¬ i < j + 1 by omega]
/-- how many are not used -/
def un (U : Nat → Bool) : Nat → Nat
  | 0 => 0
  | n + 1 => un U n + if U n = true then 0 else 1
theorem un_le (U : Nat → Bool) : ∀ n, un U n ≤ n
  | 0 => Nat.le_refl _
  | n + 1 => by have := un_le U n; simp only [un]; split <;> omega
theorem un_out {U : Nat → Bool} {a : Nat} : ∀ {n : Nat}, n ≤ a → un (mark U a) n = un U n
  | 0, _ => rfl
  | n + 1, h => by simp only [un, un_out (U := U) (a := a) (n := n) (by omega)]; rw [mark_ne (by omega)]
theorem un_mark {U : Nat → Bool} {a : Nat} (hU : U a = false) : ∀ {n : Nat}, a < n → un (mark U a) n + 1 = un U n
  | 0, h => by omega
  | n + 1, h => by
    by_cases e : a = n
    · subst e; simp only [un, un_out (U := U) (Nat.le_refl a), mark_self, hU]; simp
    · have := un_mark hU (n := n) (by omega)
      simp only [un]; rw [mark_ne (by omega)]; omega
theorem ho_first {n : Nat} {W : Nat → Nat → Int} {B : Int} (hB : 0 ≤ B) : HO n 1 W B (fun _ => 0) (fun _ => 0) (fun _ => 0) :=
  ⟨fun _ _ _ => Nat.zero_lt_one, fun _ _ _ _ _ _ _ h => absurd rfl h, fun i h1 h2 => by omega, fun i c h1 h2 => by omega, fun _ _ _ h => absurd rfl h, fun _ _ _ _ => rfl, fun h => by omega, fun _ _ _ => ⟨by omega, Int.le_refl _⟩, fun i h1 h2 => by omega, fun _ _ => rfl, ⟨Int.le_refl _, by omega⟩⟩
theorem HI.bb {n r : Nat} {w : Nat → Nat → Int} {B V0 : Int} {u v : Nat → Int} {p way : Nat → Nat} {ls : Nat → Int} {U : Nat → Bool} {a : Nat} {rk way' : Nat → Nat} {ls' : Nat → Int} {b : Int} {nx : Nat}
    (h : HI n r w B V0 u v p way ls U a rk) (hw : ∀ i c, 0 ≤ w i c ∧ w i c ≤ B) (hB : 0 ≤ B) (ha : p a ≠ 0) (s : Scan n w u v p way ls (mark U a) (n + 1) way' ls' b nx) : - B ≤ b ∧ b ≤ 2 * B := by
  obtain ⟨x1, x2, x3, x4⟩ := h.found ha s
  obtain ⟨_, s2, s3, _⟩ := s.seen nx x1 x2 (by omega) x3
  obtain ⟨_, p1, p2⟩ := h.used ha s2
  have hv := h.vle nx x1 x2
  have hw0 := hw (p (way' nx) - 1) (nx - 1)
  have hu : - B ≤ u (p (way' nx)) := by
    by_cases z : U 0 = true
    · exact (h.ule _ p1 (by
        by_cases e : p (way' nx) < r
        · exact .inl e
        · exact .inr ⟨by omega, z⟩)).1
    · by_cases e : p (way' nx) < r
      · exact (h.ule _ p1 (.inl e)).1
      · have : p (way' nx) = r := by omega
        rw [this, h.ur (ff_of z)]; omega
  refine ⟨?_, by omega⟩
  by_cases z : U 0 = true
  · have := h.pos ha s z; omega
  · exact h.low hw ha s (ff_of z)
theorem HI.urow {n r : Nat} {w : Nat → Nat → Int} {B V0 : Int} {u v : Nat → Int} {p way : Nat → Nat} {ls : Nat → Int} {U : Nat → Bool} {a : Nat} {rk : Nat → Nat}
    (h : HI n r w B V0 u v p way ls U a rk) (hB : 0 ≤ B) {i : Nat} (hi : 1 ≤ i ∧ i ≤ r) : - B ≤ u i ∧ u i ≤ 0 := by
  by_cases e : i < r
  · exact h.ule i hi.1 (.inl e)
  · have : i = r := by omega
    subst this
    by_cases z : U 0 = true
    · exact h.ule i hi.1 (.inr ⟨rfl, z⟩)
    · rw [h.ur (ff_of z)]; omega
theorem HI.vcol {n r : Nat} {w : Nat → Nat → Int} {B V0 : Int} {u v : Nat → Int} {p way : Nat → Nat} {ls : Nat → Int} {U : Nat → Bool} {a : Nat} {rk : Nat → Nat}
    (h : HI n r w B V0 u v p way ls U a rk) (hB : 0 ≤ B) (hn : n ≤ 64) {j : Nat} (hj : j ≤ n) : - B ≤ v j ∧ v j ≤ 65 * B := by
  by_cases e : j = 0
  · subst e
    have := h.v0
    have := h.urow hB ⟨h.rn.1, Nat.le_refl r⟩
    have : (r : Int) * B ≤ 64 * B := Int.mul_le_mul_of_nonneg_right (by have := h.rn; omega) hB
    omega
  · have := h.vle j (by omega) hj; omega
theorem HI.lb {n r : Nat} {w : Nat → Nat → Int} {B V0 : Int} {u v : Nat → Int} {p way : Nat → Nat} {ls : Nat → Int} {U : Nat → Bool} {a : Nat} {rk way' : Nat → Nat} {ls' : Nat → Int} {b : Int} {nx : Nat}
    (h : HI n r w B V0 u v p way ls U a rk) (hw : ∀ i c, 0 ≤ w i c ∧ w i c ≤ B) (hB : 0 ≤ B) (ha : p a ≠ 0) (s : Scan n w u v p way ls (mark U a) (n + 1) way' ls' b nx) {c : Nat} (h1 : 1 ≤ c) (h2 : c ≤ n) (hc : mark U a c = false) : - B ≤ ls' c ∧ ls' c ≤ 2 * B := by
  obtain ⟨_, s2, s3, _⟩ := s.seen c h1 h2 (by omega) hc
  obtain ⟨_, p1, p2⟩ := h.used ha s2
  have hv := h.vle c h1 h2
  have hw0 := hw (p (way' c) - 1) (c - 1)
  have hu := h.urow hB ⟨p1, p2⟩
  omega
theorem minus_step {n j : Nat} (h : j < n) : (iarr n fun i => if i < j then -1 else 0).setIfInBounds j (.int .i64 (-1)) = iarr n fun i => if i < j + 1 then -1 else 0 := by
  rw [iarr_set _ h]
  exact iarr_congr fun i _ => by
    unfold up
    by_cases e : i = j
    · subst e; simp
    · by_cases e2 : i < j
      · simp [e, e2, show i < j + 1 by omega]
      · simp [e, e2, show ¬ i < j + 1 by omega]
theorem give_step {n j : Nat} {f : Nat → Option Nat} (h : j < n) (c : Nat) : (iarr n (toI f)).setIfInBounds j (.int .i64 (c : Int)) = iarr n (toI (give f j c)) := by
  rw [iarr_set _ h]
  exact iarr_congr fun i _ => by
    unfold up
    by_cases e : i = j
    · subst e; rw [if_pos rfl]; unfold toI; rw [give_self]
    · rw [if_neg e]; unfold toI; rw [give_ne e]
theorem iarr_one (n : Nat) (f : Nat → Int) : (iarr n f).all (·.oneCell') = true := by
  rw [Array.all_eq_true]
  intro i hi
  rw [iarr_size] at hi
  have := arr_get (n := n) (fun i => Value.int .i64 (f i)) hi
  have e : (iarr n f)[i]'(by rw [iarr_size]; exact hi) = .int .i64 (f i) := by
    have := Array.getElem?_eq_some_iff.1 this
    exact this.2
  rw [e]; rfl
theorem Mem.pre {w0 w : World} (bs : List (Nat × Obj)) {cs : List (Nat × Obj)} (h : Mem w0 w (bs ++ cs)) : Mem w0 w bs := by
  have e : ∀ (i : Nat) (x : Nat × Obj), bs[i]? = some x → (bs ++ cs)[i]? = some x := fun i x hx => by
    rw [List.getElem?_append_left (List.getElem?_eq_some_iff.1 hx).1]; exact hx
  exact ⟨h.below, fun i b o hi => h.hb i b o (e _ _ hi), fun i b o hi => h.new i b o (e _ _ hi), fun i j b o o' hi hj => h.nd i j b o o' (e _ _ hi) (e _ _ hj)⟩
theorem size44 : (Try.prog.info? 44).map (·.size) = some 64 := by kernel_rfl
theorem results1 {f : Func} {tmps : Array Value} {w : World} {a : Tmp} {t tt : TypeId} {b : Nat} {cs : Array Value} {d : TypeDesc} (hf : f.results = #[.cell a t]) (ha : tmps[a]?.getD undef = .pointer (some ⟨b, 0, none⟩))
    (hh : w.heap[b]? = some (.cells cs tt (0, 0))) (hu : Try.prog.underlying t = some d) (hd : d.isRow = true) (hi : (Try.prog.info? t).map (·.size) = some cs.size) : (results f tmps).run Try.prog w = .ok (.agg cs) w := by
  have h := run_loadVar_row (P := Try.prog) w b tt t cs (0, 0) d hh hu (by cases d <;> first | rfl | cases hd) hi
  have e1 : (asAddr (.pointer (some ⟨b, 0, none⟩))).run Try.prog w = .ok ⟨b, 0, none⟩ w := rfl
  simp [results, hf, ha, h, e1, Result.andThen]
set_option maxRecDepth 20000 in
set_option maxHeartbeats 32000000 in
theorem heaviest_ok {w : World} {tb m k : Nat} {W : Nat → Nat → Int} {B : Int} (hT : Tab w tb m k W) (hm : m ≤ 64) (hk : k ≤ 64) (hB : 0 ≤ B ∧ B ≤ 2199023255552) (hW : ∀ r c, 0 ≤ W r c ∧ W r c ≤ B) (hin : ∀ r c, 0 < W r c → r < m ∧ c < k) :
    Calls Try.prog 15 #[.pointer (some ⟨tb, 0, none⟩)] w fun e w' => ∃ (f : Nat → Option Nat) (y z : Nat → Int), e = .returned (.agg (iarr 64 (toI f))) ∧ Below w.heap.size w w' ∧ Mat m k W f ∧ Dual m k W y z ∧ Comp m k W f y z := by
  have htb : tb < w.heap.size := (Array.getElem?_eq_some_iff.1 hT).1
  have S := (mem_zero w).alloc (.cells (iarr 64 fun _ => 0) 44)
  have HT := Lib.hid (fun (u : World) (hb : Below w.heap.size w u) => hT.below hb htb)
  have HTB := Lib.hid htb
  clear hT htb
  obtain ⟨n, hn1, hn2, hn3, hmax⟩ : ∃ n : Nat, m ≤ n ∧ k ≤ n ∧ n ≤ 64 ∧ max (m : Int) (k : Int) = n := ⟨max m k, by omega, by omega, by omega, by omega⟩
  go_enter Try.func15, Try.ntmps15
  go_wp2_with (first
    | (refine wpList_allocz rfl 44 (by rfl) (iarr 64 fun _ => 0) 64 zero44 ?_)
    | fail)
  have c0 := (HT.out _ S.below).rows
  have c1 := (HT.out _ S.below).cols
  have htb : tb < (w.alloc (.cells (iarr 64 fun _ => 0) 44)).heap.size := Nat.lt_of_lt_of_le HTB.out S.below.size
  generalize w.alloc (.cells (iarr 64 fun _ => 0) 44) = w1 at *
  refine wp_region_bw w1.heap.size _ (Below.refl _ _) (by kernel_rfl) (by kernel_rfl) ?_
  try simp only [Act.put, List.setIfInBounds_toArray, List.set_cons_zero, List.set_cons_succ]
  repeat (go_big_quiet_step (fail))
  refine wpQuiet_nil ?_
  intro x
  have S1 := S.up x.h
  clear S c0 c1 htb
  generalize x.i = w2 at *
  clear x w1
  have S2 := (((S1.alloc (.cells (iarr 65 fun _ => 0) 64)).alloc (.cells (iarr 65 fun _ => 0) 64)).alloc (.cells (iarr 65 fun _ => 0) 64)).alloc (.cells (iarr 65 fun _ => 0) 64)
  simp only [World.size_alloc] at S2
  clear S1
  go_wp2_with (first
    | (refine wpList_allocz rfl 64 (by rfl) (iarr 65 fun _ => 0) 65 zero64 ?_)
    | fail)
  generalize (((w2.alloc (.cells (iarr 65 fun _ => 0) 64)).alloc (.cells (iarr 65 fun _ => 0) 64)).alloc (.cells (iarr 65 fun _ => 0) 64)).alloc (.cells (iarr 65 fun _ => 0) 64) = w3 at *
  generalize w2.heap.size + 1 + 1 + 1 = bw at *
  generalize w2.heap.size + 1 + 1 = bp at *
  generalize w2.heap.size + 1 = bv at *
  generalize w2.heap.size = bu at *
  go_loopg [8] n (fun gk v8 wr => ∃ (r : Nat) (u v : Nat → Int) (p way : Nat → Nat), gk + r = n + 1 ∧ 1 ≤ r ∧ v8 = .int .i64 r ∧ HO n r W B u v p ∧ Mem w wr [(w.heap.size, .cells (iarr 64 fun _ => 0) 44 (0, 0)), (bu, .cells (iarr 65 u) 64 (0, 0)), (bv, .cells (iarr 65 v) 64 (0, 0)), (bp, .cells (iarr 65 fun c => (p c : Int)) 64 (0, 0)), (bw, .cells (iarr 65 fun c => (way c : Int)) 64 (0, 0))])
  case atStart => exact ⟨1, fun _ => 0, fun _ => 0, fun _ => 0, fun _ => 0, rfl, Nat.le_refl _, rfl, ho_first hB.1, S2⟩
  case round =>
    clear S2
    obtain ⟨r, u, v, p, way, hr, hr1, rfl, H, S⟩ := hrel
    have HH := Lib.hid H
    clear H
    by_cases hlt : r ≤ n
    · go_wp2_with (first
        | (refine wpList_put rfl 3 _ _ (by rfl) bp 0 (by rfl) _ (by rfl) S 3 (by rfl) (by rw [iarr_size]; omega) size3 (by rfl) (by rfl) _ (iarr_setn _ (by omega) _) ?_; intro w4 S4)
        | (refine wpList_allocz rfl 64 (by rfl) (iarr 65 fun _ => 0) 65 zero64 ?_)
        | (refine wpList_allocz rfl 65 (by rfl) (barr 65 fun _ => false) 65 zero65 ?_)
        | fail)
      have S5 := (S4.alloc (.cells (iarr 65 fun _ => 0) 64)).alloc (.cells (barr 65 fun _ => false) 65)
      simp only [World.size_alloc] at S5
      clear S S4
      generalize (w4.alloc (.cells (iarr 65 fun _ => 0) 64)).alloc (.cells (barr 65 fun _ => false) 65) = w5 at *
      generalize w4.heap.size + 1 = bd at *
      generalize w4.heap.size = bl at *
      have HR := Lib.hid (And.intro hr (And.intro hr1 hlt))
      go_loopg [38] 65 (fun gk v38 wr => ∃ j : Nat, gk + j = 65 ∧ v38 = .int .i64 j ∧ Mem w wr [(w.heap.size, .cells (iarr 64 fun _ => 0) 44 (0, 0)), (bu, .cells (iarr 65 u) 64 (0, 0)), (bv, .cells (iarr 65 v) 64 (0, 0)), (bp, .cells (iarr 65 fun c => (upn p 0 r c : Int)) 64 (0, 0)), (bw, .cells (iarr 65 fun c => (way c : Int)) 64 (0, 0)), (bl, .cells (iarr 65 fun i => if i < j then FAR else 0) 64 (0, 0)), (bd, .cells (barr 65 fun _ => false) 65 (0, 0))])
      case atStart => exact ⟨0, rfl, rfl, S5⟩
      case round =>
        clear S5
        obtain ⟨j, hj, rfl, S⟩ := hrel
        by_cases hj2 : j < 65
        · go_wp2_with (first
            | (refine wpList_put rfl 3 _ _ (by rfl) bl j (by rfl) _ (by rfl) S 5 (by rfl) (by rw [iarr_size]; omega) size3 (by rfl) (by rfl) _ (fill_step hj2) ?_; intro w6 S6)
            | fail)
          go_roundg (gk - 1)
          case measure => omega
          case rel => exact ⟨j + 1, by omega, by go_num, S6⟩
        · obtain rfl : j = 65 := by omega
          go_wp2_with fail
          have eF : iarr 65 (fun i => if i < 65 then FAR else 0) = iarr 65 fun _ => FAR := iarr_congr fun i hi => if_pos hi
          rw [eF] at S
          clear hj hj2 eF
          go_loopg [9] (n + 1) (fun gk v9 wr => ∃ (u1 v1 : Nat → Int) (way1 : Nat → Nat) (ls : Nat → Int) (U : Nat → Bool) (a : Nat) (rk : Nat → Nat), un U (n + 1) ≤ gk ∧ v9 = .int .i64 a ∧ HI n r W B (v 0) u1 v1 (upn p 0 r) way1 ls U a rk ∧ Mem w wr [(w.heap.size, .cells (iarr 64 fun _ => 0) 44 (0, 0)), (bu, .cells (iarr 65 u1) 64 (0, 0)), (bv, .cells (iarr 65 v1) 64 (0, 0)), (bp, .cells (iarr 65 fun c => (upn p 0 r c : Int)) 64 (0, 0)), (bw, .cells (iarr 65 fun c => (way1 c : Int)) 64 (0, 0)), (bl, .cells (iarr 65 ls) 64 (0, 0)), (bd, .cells (barr 65 U) 65 (0, 0))])
          case atStart => exact ⟨u, v, way, fun _ => FAR, fun _ => false, 0, fun _ => 0, un_le _ _, rfl, HH.out.start ⟨hr1, hlt⟩, S⟩
          case round =>
            clear S
            obtain ⟨u1, v1, way1, ls, U, a, rk, hun, rfl, HI1, S⟩ := hrel
            have haN := HI1.an
            have q0 := S.icell 3 (b := bp) rfl (j := a) (by omega)
            have HN := Lib.hid hun
            by_cases ha : upn p 0 r a = 0
            · have hI := Lib.hid HI1
              clear HI1 hun
              have ha2 : ((upn p 0 r a : Nat) : Int) = 0 := by omega
              go_wp2_with fail
              clear ha2 q0
              have HZ := Lib.hid ha
              clear ha
              have HTR := Lib.hid (hI.out.theTree HZ.out)
              go_loopg [9] (upn rk a (rk (way1 a) + 1) a) (fun gk v9 wr => ∃ (q : Nat → Nat) (t : Nat), upn rk a (rk (way1 a) + 1) t ≤ gk ∧ v9 = .int .i64 t ∧ HA n r W u1 v1 (upn p 0 r) way1 (upn rk a (rk (way1 a) + 1)) (mark U a) q t ∧ Mem w wr [(w.heap.size, .cells (iarr 64 fun _ => 0) 44 (0, 0)), (bu, .cells (iarr 65 u1) 64 (0, 0)), (bv, .cells (iarr 65 v1) 64 (0, 0)), (bp, .cells (iarr 65 fun c => (q c : Int)) 64 (0, 0)), (bw, .cells (iarr 65 fun c => (way1 c : Int)) 64 (0, 0)), (bl, .cells (iarr 65 ls) 64 (0, 0)), (bd, .cells (barr 65 U) 65 (0, 0))])
              case atStart => exact ⟨_, a, Nat.le_refl _, rfl, hI.out.back HZ.out, S⟩
              case round =>
                clear S
                obtain ⟨q, t, ht, rfl, A, S⟩ := hrel
                have HQ := Lib.hid A
                have HTN := Lib.hid ht
                clear A ht
                by_cases ht : t = 0
                · subst ht
                  go_wp2_with fail
                  go_roundg (n - r)
                  case measure => have := HR.out; omega
                  case rel => exact ⟨r + 1, u1, v1, q, way1, by have := HR.out; omega, by omega, by go_num, hI.out.done HZ.out HQ.out, Mem.pre [_, _, _, _, _] S⟩
                · have g := HTR.out.go t HQ.out.tT ht
                  have tn := HQ.out.tn
                  have wn : way1 t < 65 := by have := g.2.2.1; omega
                  have q0 := S.icell 4 (b := bw) rfl (j := t) (by omega)
                  have q1 := S.icell 3 (b := bp) rfl (j := way1 t) wn
                  have HST := Lib.hid (HQ.out.step HTR.out ht)
                  have ht2 : ¬ (t : Int) = 0 := by omega
                  clear g
                  have hc1 : (iarr 65 fun c => (q c : Int)).setIfInBounds t (.int .i64 (q (way1 t) : Int)) = iarr 65 fun c => (upn q t (q (way1 t)) c : Int) := iarr_setn _ (by omega) _
                  have HC1 := Lib.hid hc1
                  clear hc1
                  go_wp2_with (first
                    | (refine wpList_put rfl 3 _ _ (by rfl) bp t (by rfl) _ (by rfl) S 3 (by rfl) (by rw [iarr_size]; omega) size3 (by rfl) (by rfl) _ HC1.out ?_; intro w8 S8; clear S; have q2 := S8.icell 4 (b := bw) rfl (j := t) (by omega))
                    | fail)
                  go_roundg (upn rk a (rk (way1 a) + 1) (way1 t))
                  case measure => have := HTN.out; have := HST.out.2; omega
                  case rel => exact ⟨_, way1 t, Nat.le_refl _, rfl, HST.out.1, S8⟩
            · have hI := Lib.hid HI1
              have ha2 : ¬ ((upn p 0 r a : Nat) : Int) = 0 := by omega
              clear HI1 hun
              go_wp2_with (first
                | (refine wpList_put rfl 4 _ _ (by rfl) bd a (by rfl) _ (by rfl) S 6 (by rfl) (by rw [barr_size]; omega) size4 (by rfl) (by rfl) _ (barr_set _ (by omega)) ?_; intro w6 S6; have q1 := S6.icell 3 (b := bp) rfl (j := a) (by omega))
                | fail)
              clear q0 q1 S ha2
              have HA := Lib.hid ha
              clear ha
              have hB2 : 0 ≤ B ∧ 2 * B < FAR := ⟨hB.1, by have := hB.2; unfold FAR; omega⟩
              have HB := Lib.hid hB2
              clear hB2
              go_loopg [14, 15, 16] n (fun gk v14 v15 v16 wr => ∃ (j : Nat) (way2 : Nat → Nat) (ls2 : Nat → Int) (b : Int) (nx : Nat), gk + j = n + 1 ∧ 1 ≤ j ∧ v16 = .int .i64 j ∧ v14 = .int .i64 nx ∧ v15 = .int .i64 b ∧ Scan n W u1 v1 (upn p 0 r) way1 ls (mark U a) j way2 ls2 b nx ∧ Mem w wr [(w.heap.size, .cells (iarr 64 fun _ => 0) 44 (0, 0)), (bu, .cells (iarr 65 u1) 64 (0, 0)), (bv, .cells (iarr 65 v1) 64 (0, 0)), (bp, .cells (iarr 65 fun c => (upn p 0 r c : Int)) 64 (0, 0)), (bw, .cells (iarr 65 fun c => (way2 c : Int)) 64 (0, 0)), (bl, .cells (iarr 65 ls2) 64 (0, 0)), (bd, .cells (barr 65 (mark U a)) 65 (0, 0))])
              case atStart => exact ⟨1, way1, ls, FAR, 0, rfl, Nat.le_refl _, rfl, rfl, rfl, scan_first, S6⟩
              case round =>
                clear S6
                obtain ⟨j, way2, ls2, b, nx, hj, hj1, rfl, rfl, rfl, SC, S⟩ := hrel
                have HS := Lib.hid SC
                clear SC
                by_cases hjn : j ≤ n
                · have q0 := S.bcell 6 (b := bd) rfl (j := j) (by omega)
                  by_cases hu : mark U a j = true
                  · rw [hu] at q0
                    have HU := Lib.hid hu
                    clear hu
                    go_wp2_with fail
                    go_roundg (gk - 1)
                    case measure => omega
                    case rel => exact ⟨j + 1, way2, ls2, b, nx, by omega, by omega, by go_num, rfl, rfl, HS.out.skip HU.out, S⟩
                  · have hu' := ff_of hu
                    rw [hu'] at q0
                    have HU := Lib.hid hu'
                    clear hu hu'
                    have hu2 := hI.out.used HA.out (mark_self U a)
                    obtain ⟨pa, hpa⟩ : ∃ pa : Nat, upn p 0 r a = pa + 1 := ⟨upn p 0 r a - 1, by omega⟩
                    obtain ⟨j1, rfl⟩ : ∃ j1 : Nat, j = j1 + 1 := ⟨j - 1, by omega⟩
                    have e1 : ((upn p 0 r a : Nat) : Int) - 1 = (pa : Int) := by omega
                    have e2 : ((j1 + 1 : Nat) : Int) - 1 = (j1 : Int) := by omega
                    have q1 := (HT.out _ S.below).w (r := pa) (c := j1) (by omega) (by omega) rfl
                    have q2 := S.icell 1 (b := bu) rfl (j := upn p 0 r a) (by omega)
                    have q3 := S.icell 2 (b := bv) rfl (j := j1 + 1) (by omega)
                    have l1 : bu < wr.heap.size := (Array.getElem?_eq_some_iff.1 (S.at 1 rfl)).1
                    have l2 : bv < wr.heap.size := (Array.getElem?_eq_some_iff.1 (S.at 2 rfl)).1
                    have l3 : tb < wr.heap.size := Nat.lt_of_lt_of_le HTB.out S.below.size
                    have HPA := Lib.hid hpa
                    have b1 := hW pa j1
                    have b2 := (hI.out.left hW hB.1 HA.out (c := j1 + 1) (by omega) hjn).2.2
                    have b3 := hI.out.vle (j1 + 1) (by omega) hjn
                    have b4 := hB.2
                    have b5 : pa < 64 := by omega
                    clear hpa hu2
                    go_wp2_with fail
                    refine wp_region_bw wr.heap.size _ (Below.refl _ _) (by kernel_rfl) (by kernel_rfl) ?_
                    repeat (go_big_quiet_step (fail))
                    refine wpQuiet_nil ?_
                    intro x
                    have S1 := S.up x.h
                    clear S q0 q1 q2 q3 l1 l2 l3
                    generalize x.i = w7 at *
                    clear x wr
                    have LK := hI.out.look hW HB.out HA.out (c := j1 + 1) (by omega) hjn HU.out
                    have LF := hI.out.left hW hB.1 HA.out (c := j1 + 1) (by omega) hjn
                    rw [show upn p 0 r a - 1 = pa by have := HPA.out; omega, Nat.add_sub_cancel] at LK LF
                    have eS := HS.out.same (j1 + 1) (.inl (Nat.le_refl _))
                    obtain ⟨L, hL⟩ : ∃ L : Int, L = -W pa j1 - u1 (upn p 0 r a) - v1 (j1 + 1) := ⟨_, rfl⟩
                    rw [← hL] at LK LF ⊢
                    have HLK := Lib.hid LK
                    have b6 := LF.1
                    have b7 := LF.2.1
                    clear LK LF hL b1 b2 b3 e1
                    have q4 := S1.icell 5 (b := bl) rfl (j := j1 + 1) (by omega)
                    rw [eS.1] at q4
                    have HES := Lib.hid eS
                    have hjm := HB.out.2
                    clear eS
                    by_cases hL : L < ls (j1 + 1)
                    · have HST := Lib.hid (HS.out.step (by omega) hjn HU.out (HLK.out.1 hL) rfl rfl (by omega))
                      by_cases hLb : L < b
                      · go_wp2_with (first
                        | (refine wpList_put rfl 3 _ _ (by rfl) bl (j1 + 1) (by rfl) _ (by rfl) S1 5 (by rfl) (by rw [iarr_size]; omega) size3 (by rfl) (by rfl) _ (iarr_set _ (by omega) _) ?_; intro w8 S8; clear S1)
                        | (refine wpList_put rfl 3 _ _ (by rfl) bw (j1 + 1) (by rfl) _ (by rfl) S8 4 (by rfl) (by rw [iarr_size]; omega) size3 (by rfl) (by rfl) _ (iarr_setn _ (by omega) _) ?_; intro w9 S9; clear S8; have q5 := S9.icell 5 (b := bl) rfl (j := j1 + 1) (by omega); rw [up_self] at q5)
                        | fail)
                        go_roundg (gk - 1)
                        case measure => omega
                        case rel => exact ⟨j1 + 1 + 1, _, _, L, j1 + 1, by omega, by omega, by go_num, by go_num, rfl, HST.out.1 hLb, S9⟩
                      · go_wp2_with (first
                        | (refine wpList_put rfl 3 _ _ (by rfl) bl (j1 + 1) (by rfl) _ (by rfl) S1 5 (by rfl) (by rw [iarr_size]; omega) size3 (by rfl) (by rfl) _ (iarr_set _ (by omega) _) ?_; intro w8 S8; clear S1)
                        | (refine wpList_put rfl 3 _ _ (by rfl) bw (j1 + 1) (by rfl) _ (by rfl) S8 4 (by rfl) (by rw [iarr_size]; omega) size3 (by rfl) (by rfl) _ (iarr_setn _ (by omega) _) ?_; intro w9 S9; clear S8; have q5 := S9.icell 5 (b := bl) rfl (j := j1 + 1) (by omega); rw [up_self] at q5)
                        | fail)
                        go_roundg (gk - 1)
                        case measure => omega
                        case rel => exact ⟨j1 + 1 + 1, _, _, b, nx, by omega, by omega, by go_num, rfl, rfl, HST.out.2 hLb, S9⟩
                    · have HST := Lib.hid (HS.out.step (by omega) hjn HU.out (HLK.out.2 hL) (ls2 := ls2) (way2 := way2) (by funext i; unfold up; by_cases e : i = j1 + 1 <;> simp [e, HES.out.1]) (by funext i; unfold upn; by_cases e : i = j1 + 1 <;> simp [e, HES.out.2]) (by omega))
                      by_cases hLb : ls (j1 + 1) < b
                      · go_wp2_with fail
                        go_roundg (gk - 1)
                        case measure => omega
                        case rel => exact ⟨j1 + 1 + 1, way2, ls2, ls (j1 + 1), j1 + 1, by omega, by omega, by go_num, by go_num, rfl, HST.out.1 hLb, S1⟩
                      · go_wp2_with fail
                        go_roundg (gk - 1)
                        case measure => omega
                        case rel => exact ⟨j1 + 1 + 1, way2, ls2, b, nx, by omega, by omega, by go_num, rfl, rfl, HST.out.2 hLb, S1⟩
                · obtain rfl : j = n + 1 := by omega
                  have HF := Lib.hid (hI.out.found HA.out HS.out)
                  clear hj hj1 hjn
                  go_wp2_with fail
                  go_loopg [18] (n + 1) (fun gk v18 wr => ∃ j : Nat, gk + j = n + 1 ∧ v18 = .int .i64 j ∧ Mem w wr [(w.heap.size, .cells (iarr 64 fun _ => 0) 44 (0, 0)), (bu, .cells (iarr 65 (uD (mark U a) (upn p 0 r) u1 b j)) 64 (0, 0)), (bv, .cells (iarr 65 (vD (mark U a) v1 b j)) 64 (0, 0)), (bp, .cells (iarr 65 fun c => (upn p 0 r c : Int)) 64 (0, 0)), (bw, .cells (iarr 65 fun c => (way2 c : Int)) 64 (0, 0)), (bl, .cells (iarr 65 (lD (mark U a) ls2 b j)) 64 (0, 0)), (bd, .cells (barr 65 (mark U a)) 65 (0, 0))])
                  case atStart => exact ⟨0, rfl, rfl, by rw [uD_zero, vD_zero, lD_zero]; exact S⟩
                  case round =>
                    clear S
                    obtain ⟨j, hj, rfl, S⟩ := hrel
                    by_cases hjn : j ≤ n
                    · have q0 := S.bcell 6 (b := bd) rfl (j := j) (by omega)
                      by_cases hu : mark U a j = true
                      · rw [hu] at q0
                        have hu2 := hI.out.used HA.out hu
                        have fr := hI.out.fresh HA.out hu
                        have q1 := S.icell 3 (b := bp) rfl (j := j) (by omega)
                        have q2 := S.icell 1 (b := bu) rfl (j := upn p 0 r j) (by omega)
                        rw [uD_no fr] at q2
                        have bb := hI.out.bb hW hB.1 HA.out HS.out
                        have b1 : - B ≤ u1 (upn p 0 r j) ∧ u1 (upn p 0 r j) ≤ 0 := hI.out.urow hB.1 hu2.2
                        have b2 : - B ≤ v1 j ∧ v1 j ≤ 65 * B := hI.out.vcol hB.1 hn3 hjn
                        have b3 := hB.2
                        have ev : vD (mark U a) v1 b j j = v1 j := if_neg (by omega)
                        have HU := Lib.hid hu
                        have HFR := Lib.hid fr
                        have HEV := Lib.hid ev
                        have hc1 : (iarr 65 (uD (mark U a) (upn p 0 r) u1 b j)).setIfInBounds (upn p 0 r j) (.int .i64 (u1 (upn p 0 r j) + b)) = iarr 65 (uD (mark U a) (upn p 0 r) u1 b (j + 1)) := by
                          rw [iarr_set _ (show upn p 0 r j < 65 by omega), ← uD_step hu fr, uD_no fr]
                        have hc2 : (iarr 65 (vD (mark U a) v1 b j)).setIfInBounds j (.int .i64 (v1 j - b)) = iarr 65 (vD (mark U a) v1 b (j + 1)) := by
                          rw [iarr_set _ (show j < 65 by omega), ← vD_step hu, ev]
                        have HC1 := Lib.hid hc1
                        have HC2 := Lib.hid hc2
                        clear hu fr ev hc1 hc2
                        go_wp2_with (first
                          | (refine wpList_put rfl 3 _ _ (by rfl) bu (upn p 0 r j) (by rfl) _ (by rfl) S 1 (by rfl) (by rw [iarr_size]; omega) size3 (by rfl) (by rfl) _ HC1.out ?_; intro w8 S8; clear S; have q3 := S8.icell 2 (b := bv) rfl (j := j) (by omega); rw [HEV.out] at q3)
                          | (refine wpList_put rfl 3 _ _ (by rfl) bv j (by rfl) _ (by rfl) S8 2 (by rfl) (by rw [iarr_size]; omega) size3 (by rfl) (by rfl) _ HC2.out ?_; intro w9 S9; clear S8)
                          | fail)
                        go_roundg (gk - 1)
                        case measure => omega
                        case rel => exact ⟨j + 1, by omega, by go_num, by rw [lD_skip HU.out]; exact S9⟩
                      · have hu' := ff_of hu
                        rw [hu'] at q0
                        have j0 : j ≠ 0 := fun e => by rw [e, hI.out.zero] at hu'; cases hu'
                        have bb := hI.out.bb hW hB.1 HA.out HS.out
                        have b1 : - B ≤ ls2 j ∧ ls2 j ≤ 2 * B := hI.out.lb hW hB.1 HA.out HS.out (by omega) hjn hu'
                        have b3 := hB.2
                        have el : lD (mark U a) ls2 b j j = ls2 j := if_neg (by omega)
                        have q1 := S.icell 5 (b := bl) rfl (j := j) (by omega)
                        rw [el] at q1
                        have hc1 : (iarr 65 (lD (mark U a) ls2 b j)).setIfInBounds j (.int .i64 (ls2 j - b)) = iarr 65 (lD (mark U a) ls2 b (j + 1)) := by
                          rw [iarr_set _ (show j < 65 by omega), ← lD_step hu', el]
                        have HU := Lib.hid hu'
                        have HC1 := Lib.hid hc1
                        clear hu hu' hc1 el
                        go_wp2_with (first
                          | (refine wpList_put rfl 3 _ _ (by rfl) bl j (by rfl) _ (by rfl) S 5 (by rfl) (by rw [iarr_size]; omega) size3 (by rfl) (by rfl) _ HC1.out ?_; intro w8 S8; clear S)
                          | fail)
                        go_roundg (gk - 1)
                        case measure => omega
                        case rel => exact ⟨j + 1, by omega, by go_num, by rw [uD_skip HU.out, vD_skip HU.out]; exact S8⟩
                    · obtain rfl : j = n + 1 := by omega
                      clear hj hjn
                      go_wp2_with fail
                      go_roundg (un (mark U a) (n + 1))
                      case measure => have := un_mark hI.out.aU (n := n + 1) (by have := hI.out.an; omega); have := HN.out; omega
                      case rel => exact ⟨_, _, _, _, _, nx, _, Nat.le_refl _, rfl, hI.out.next hW HA.out HS.out, S⟩
    · obtain rfl : r = n + 1 := by omega
      clear hlt hr hr1
      go_wp2_with fail
      have e0 : iarr 64 (fun _ => 0) = iarr 64 (fun i => if i < 0 then -1 else 0) := iarr_congr fun i _ => by rw [if_neg (by omega)]
      rw [e0] at S
      clear e0
      go_loopg [141] 64 (fun gk v141 wr => ∃ j : Nat, gk + j = 64 ∧ v141 = .int .i64 j ∧ Mem w wr [(w.heap.size, .cells (iarr 64 fun i => if i < j then -1 else 0) 44 (0, 0)), (bu, .cells (iarr 65 u) 64 (0, 0)), (bv, .cells (iarr 65 v) 64 (0, 0)), (bp, .cells (iarr 65 fun c => (p c : Int)) 64 (0, 0)), (bw, .cells (iarr 65 fun c => (way c : Int)) 64 (0, 0))])
      case atStart => exact ⟨0, rfl, rfl, S⟩
      case round =>
        clear S
        obtain ⟨j, hj, rfl, S⟩ := hrel
        by_cases hj2 : j < 64
        · go_wp2_with (first
            | (refine wpList_put rfl 3 _ _ (by rfl) w.heap.size j (by rfl) _ (by rfl) S 0 (by rfl) (by rw [iarr_size]; omega) size3 (by rfl) (by rfl) _ (minus_step hj2) ?_; intro w6 S6)
            | fail)
          go_roundg (gk - 1)
          case measure => omega
          case rel => exact ⟨j + 1, by omega, by go_num, S6⟩
        · obtain rfl : j = 64 := by omega
          go_wp2_with fail
          have eF : iarr 64 (fun i => if i < 64 then -1 else 0) = iarr 64 (toI fun _ => none) := iarr_congr fun i hi => if_pos hi
          rw [eF] at S
          clear hj hj2 eF
          go_loopg [20] n (fun gk v20 wr => ∃ (j : Nat) (f : Nat → Option Nat), gk + j = n + 1 ∧ 1 ≤ j ∧ v20 = .int .i64 j ∧ FT n W p j f ∧ Mem w wr [(w.heap.size, .cells (iarr 64 (toI f)) 44 (0, 0)), (bu, .cells (iarr 65 u) 64 (0, 0)), (bv, .cells (iarr 65 v) 64 (0, 0)), (bp, .cells (iarr 65 fun c => (p c : Int)) 64 (0, 0)), (bw, .cells (iarr 65 fun c => (way c : Int)) 64 (0, 0))])
          case atStart => exact ⟨1, fun _ => none, rfl, Nat.le_refl _, rfl, ft_first, S⟩
          case round =>
            clear S
            obtain ⟨j, f, hj, hj1, rfl, F, S⟩ := hrel
            have HFT := Lib.hid F
            clear F
            by_cases hjn : j ≤ n
            · have q0 := S.icell 3 (b := bp) rfl (j := j) (by omega)
              by_cases hp : p j = 0
              · have hp2 : ¬ (0 : Int) < p j := by omega
                have hp3 : decide ((0 : Int) < p j) = false := decide_eq_false hp2
                have HP := Lib.hid hp
                clear hp
                go_wp2_with fail
                go_roundg (gk - 1)
                case measure => omega
                case rel => exact ⟨j + 1, f, by omega, by omega, by go_num, HFT.out.skip (.inl HP.out), S⟩
              · have hlt := HH.out.lt j hj1 hjn
                obtain ⟨pa, hpa⟩ : ∃ pa : Nat, p j = pa + 1 := ⟨p j - 1, by omega⟩
                obtain ⟨j1, rfl⟩ : ∃ j1 : Nat, j = j1 + 1 := ⟨j - 1, by omega⟩
                have q1 := (HT.out _ S.below).w (r := pa) (c := j1) (by omega) (by omega) rfl
                have hp2 : (0 : Int) < p (j1 + 1) := by omega
                have hp3 : decide ((0 : Int) < p (j1 + 1)) = true := decide_eq_true hp2
                have e1 : ((p (j1 + 1) : Nat) : Int) - 1 = (pa : Int) := by omega
                have e2 : ((j1 + 1 : Nat) : Int) - 1 = (j1 : Int) := by omega
                have HPA := Lib.hid hpa
                have hp64 : pa < 64 := by omega
                clear hpa
                by_cases hw : 0 < W pa j1
                · have HFT2 := Lib.hid (HFT.out.take hj1 hp (by rw [HPA.out, Nat.add_sub_cancel, Nat.add_sub_cancel]; exact hw))
                  have hc1 : (iarr 64 (toI f)).setIfInBounds pa (.int .i64 (j1 : Int)) = iarr 64 (toI (give f pa j1)) := give_step hp64 _
                  have HC1 := Lib.hid hc1
                  clear hc1
                  go_wp2_with (first
                    | (refine wpList_put rfl 3 _ _ (by rfl) w.heap.size pa (by rfl) _ (by rfl) S 0 (by rfl) (by rw [iarr_size]; omega) size3 (by rfl) (by rfl) _ HC1.out ?_; intro w6 S6)
                    | fail)
                  go_roundg (gk - 1)
                  case measure => omega
                  case rel => exact ⟨j1 + 1 + 1, _, by omega, by omega, by go_num, HFT2.out, by rw [HPA.out, Nat.add_sub_cancel, Nat.add_sub_cancel]; exact S6⟩
                · have hw2 : decide ((0 : Int) < W pa j1) = false := decide_eq_false hw
                  go_wp2_with fail
                  go_roundg (gk - 1)
                  case measure => omega
                  case rel => exact ⟨j1 + 1 + 1, f, by omega, by omega, by go_num, HFT.out.skip (.inr (by rw [HPA.out, Nat.add_sub_cancel, Nat.add_sub_cancel]; omega)), S⟩
            · obtain rfl : j = n + 1 := by omega
              have q0 := S.at 0 (b := w.heap.size) rfl
              clear hj hj1 hjn
              go_wp2_with (first
                | (refine wpList_loadrow rfl 44 _ (by rfl) w.heap.size (by rfl) (iarr 64 (toI f)) 44 _ q0 Try.underlying44 rfl (by rw [iarr_size]; exact size44) ?_)
                | (refine wpList_storerow rfl 44 _ _ (by rfl) w.heap.size (by rfl) (iarr 64 (toI f)) (iarr 64 (toI f)) (by rfl) q0 (by rw [iarr_size]; exact size44) rfl (iarr_one _ _) ?_)
                | fail)
              have S9 := S.set 0 (b := w.heap.size) rfl (iarr 64 (toI f))
              try simp only [Exit.inBlock, Exit.then]
              refine bodyPost_ret (v := .agg (iarr 64 (toI f))) (results1 (a := 2) (t := 44) rfl (by rfl) (S9.at 0 rfl) Try.underlying44 rfl (by rw [iarr_size]; exact size44)) rfl ?_
              obtain ⟨m1, m2, m3⟩ := HH.out.end_ hn1 hn2 (fun r c => (hW r c).1) hin HFT.out
              exact ⟨f, _, _, rfl, S9.below, m1, m2, m3⟩
end Go.Proofs.Ytikjelkehcnjmaa
