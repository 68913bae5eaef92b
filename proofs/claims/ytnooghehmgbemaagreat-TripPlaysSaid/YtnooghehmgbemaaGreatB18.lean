/- Trip: from contract to row; what came in, opened. -/
import Derived.Test.YtnooghehmgbemaaGreatB17
import Derived.Deep.Slices
import Derived.JoinedCond
import Derived.ProofKit
import Derived.Lib.SmallJoins
import Derived.Carry
namespace Go.Proofs.YtnooghehmgbemaaGreat
open Go.ChangeShapes Go.WideShapes Go.ChangeAt Go.RowKit
set_option linter.unusedVariables false
set_option linter.unusedSimpArgs false
theorem Tryz.own : ownKnob Tryz.prog.godebug = none := by kernel_rfl

theorem trodAll_below {H : Type} {enc : TypeId × Value → H} {W W' : World} (hb : Below W.heap.size W W') :
    ∀ (ts : List TypeId) (vs : List Value) (ds : List (DataW H)) (ps : List MemPlace), (∀ t ∈ ts, Tryz.prog.readableRec t = true ∧ t < Tryz.prog.types.size) → (∀ x ∈ ps, x.block < W.heap.size) →
      DataW.TrodAll enc Tryz.prog W 0 (fun _ => true) true ts vs ds ps → DataW.TrodAll enc Tryz.prog W' 0 (fun b => decide (b < W.heap.size)) true ts vs ds ps
  | [], [], [], _, _, _, h => h
  | t :: ts, v :: vs, d :: ds, ps, ht, hlt, h => by
    obtain ⟨p, q, h1, h2, rfl⟩ := h
    exact ⟨p, q, Below.trod Tryz.laidOut (ht t (List.mem_cons_self ..)).1 (ht t (List.mem_cons_self ..)).2 h1 hb (fun x hx => hlt x (List.mem_append.2 (.inl hx))),
      trodAll_below hb ts vs ds q (fun t' ht' => ht t' (List.mem_cons_of_mem _ ht')) (fun x hx => hlt x (List.mem_append.2 (.inr hx))) h2, rfl⟩
  | [], _ :: _, _, _, _, _, h => h.elim
  | [], [], _ :: _, _, _, _, h => h.elim
  | _ :: _, [], _, _, _, _, h => h.elim
  | _ :: _, _ :: _, [], _, _, _, h => h.elim

/-- What a row asks behind the call. -/
theorem law_post {H : Type} {enc : TypeId × Value → H} {fn : Func} {s : ChangeSpec} {W W' : World} {args : Array Value} {ds gs : List (DataW H)} {before : List MemPlace}
    (hW : DataW.Whole enc Tryz.prog fn.params.toList s.vars false W args.toList ds gs before) (hv : s.vars = [])
    (hs : s.fn H (ds ++ gs) = { results := [.lit (.bool true)], args := ds }) (hr : fn.resultTypes = #[4])
    (hreads : (fn.params.toList.all fun t => Tryz.prog.readableRec t && decide (t < Tryz.prog.types.size)) = true) (hb : Below W.heap.size W W') :
    s.post enc Tryz.prog fn false true false false W args (.bool true) W' := by
  have hW' := hW
  obtain ⟨p, q, hA, hV, rfl, hfz, hnd⟩ := hW
  rw [hv] at hV
  have hlt : ∀ x ∈ p ++ q, x.block < W.heap.size := fun x hx => hW'.lt x hx
  have hreads' : ∀ t ∈ fn.params.toList, Tryz.prog.readableRec t = true ∧ t < Tryz.prog.types.size := fun t ht => by
    have h := List.all_eq_true.1 hreads t ht
    simp only [Bool.and_eq_true, decide_eq_true_eq] at h
    exact h
  refine ⟨ds, gs, p ++ q, [], p, q, hW', ?_, ?_, ?_, hb.frame _, fun h => by cases h⟩
  · rw [hs, hr]
    exact trodAll_mk1 (shut_bool Tryz.underlying4 true)
  · rw [hs]
    exact trodAll_below hb _ _ _ _ hreads' (fun x hx => hlt x (List.mem_append.2 (.inl hx))) hA
  · rw [hs, hv]
    cases gs with
    | nil => exact hV
    | cons g gs => exact hV.elim

section
variable {H : Type} {enc : TypeId × Value → H} {W : World} {base : Nat} {v : Value} {d : DataW H} {ps : List MemPlace} {r : Reach} {b0 : Nat}

set_option maxRecDepth 50000 in
theorem open_i {held : Bool} {sp : Nat → Bool} (hval : Value.okWide Tryz.prog W r b0 3 v) (hd : DataW.Trod enc Tryz.prog W base sp held 3 v d ps) :
    ∃ n : Int, v = .int .i64 n ∧ d = .lit (.int .i64 n) ∧ ps = [] ∧ -9223372036854775808 ≤ n ∧ n ≤ 9223372036854775807 := by
  obtain ⟨n, h1, h2, h3, h4⟩ := open_int Tryz.underlying3 hval hd
  exact ⟨n, h1, h2, h3, bounds_i64 h4⟩

end

theorem bulk_one {H : Type} (d : DataW H) : 1 ≤ Rows.uptoBulk d := by
  cases d with
  | lit l => cases l <;> simp [Rows.uptoBulk]
  | nil => simp [Rows.uptoBulk]
  | ptr d => simp [Rows.uptoBulk]
  | slice elems spare => simp [Rows.uptoBulk]
  | agg parts => simp [Rows.uptoBulk]
  | iface t d => simp [Rows.uptoBulk]
  | map entries => simp [Rows.uptoBulk]
  | held h => simp [Rows.uptoBulk]

theorem bulk_length {H : Type} (l : List (DataW H)) : l.length ≤ Rows.uptoBulkAll l := by
  induction l with
  | nil => simp [Rows.uptoBulkAll]
  | cons x r ih => have := bulk_one x; simp only [Rows.uptoBulkAll, List.length_cons]; omega

theorem bulk_slice {H : Type} (elems spare : List (DataW H)) (hk : Rows.uptoSmall H [.slice elems spare] = true) : elems.length ≤ 1048576 := by
  have h : Rows.uptoBulkAll [DataW.slice elems spare] ≤ 1048576 := of_decide_eq_true hk
  simp only [Rows.uptoBulkAll, Rows.uptoBulk] at h
  have h1 := bulk_length elems
  omega

theorem cell_lt {w : World} {b off : Nat} {v : Value} (h : w.cell? ⟨b, off, none⟩ = some v) : b < w.heap.size := by
  rcases Nat.lt_or_ge b w.heap.size with hlt | hge
  · exact hlt
  · simp [World.cell?, Array.getElem?_eq_none hge] at h
/-- a slice's things, as cells of w below block B -/
structure Rd {α : Type} (cells : α → List Value) (size : Nat) (w : World) (B : Nat) (A : Option Addr) (n : Nat) (xs : List α) : Prop where
  len : xs.length = n
  at_ : 0 < n → ∃ b off, A = some ⟨b, off, none⟩ ∧ b < B ∧ ∀ (i : Nat) (x : α), xs[i]? = some x → ∀ (j : Nat) (v : Value), (cells x)[j]? = some v → w.cell? ⟨b, off + i * size + j, none⟩ = some v

theorem Rd.below {α : Type} {cells : α → List Value} {size : Nat} {w w' : World} {B n : Nat} {A : Option Addr} {xs : List α} (h : Rd cells size w B A n xs) (hb : Below B w w') : Rd cells size w' B A n xs :=
  ⟨h.len, fun hn => by obtain ⟨b, off, e, hl, hc⟩ := h.at_ hn; exact ⟨b, off, e, hl, fun i x hx j v hv => (hb.cell (p := ⟨b, off + i * size + j, none⟩) hl).trans (hc i x hx j v hv)⟩⟩

set_option maxRecDepth 100000 in
theorem open_rows {α : Type} [Inhabited α] (cells : α → List Value) (ok : α → Prop) {T E : TypeId} {size : Nat} (hu : Tryz.prog.underlying T = some (.slice E)) (hC : Tryz.prog.cellsOf E = size) (h0 : 0 < size) (hz : ∀ a, (cells a).length = size)
    {H : Type} {enc : TypeId × Value → H} {W : World} {base : Nat} {v : Value} {d : DataW H} {ps : List MemPlace} {r : Reach} {b0 : Nat} {held : Bool} {sp : Nat → Bool}
    (hE : ∀ (fuel : Nat) (cs : List Value) (x : DataW H × List MemPlace), DataW.trod enc Tryz.prog W base sp held fuel E cs = some x → ∃ a, cs = cells a ∧ ok a)
    (hval : Value.okWide Tryz.prog W r b0 T v) (hd : DataW.Trod enc Tryz.prog W base sp held T v d ps) :
    ∃ A n c xs, v = .slice A n c ∧ n ≤ c ∧ Rd cells size W W.heap.size A n xs ∧ (∀ x ∈ xs, ok x) ∧ (n = 0 ∨ ∃ elems spare, d = .slice elems spare ∧ elems.length = n) := by
  obtain ⟨A, n, c, rfl⟩ := okWide_slice hu hval
  obtain ⟨fuel, hf⟩ := hd
  rcases Go.Deep.open_slice hu hf with ⟨h0, _⟩ | ⟨a, len, cap, m, k, D, Pl, hcs, hb, hl, hm, hmm, hx, hi⟩
  · simp only [Value.cells] at h0
    injection h0 with h0
    injection h0 with e1 e2 e3
    subst e1 e2 e3
    exact ⟨none, 0, 0, [], rfl, Nat.le_refl _, ⟨rfl, fun h => absurd h (by omega)⟩, (by intro p hp; cases hp), .inl rfl⟩
  · simp only [Value.cells] at hcs
    injection hcs with hcs
    injection hcs with e1 e2 e3
    subst e1 e2 e3
    have hd' : d = .slice ((List.range n).map D) ((List.range (m - n)).map fun j => D (n + j)) := by injection hx
    have hle : n ≤ m := by rw [hmm]; split <;> omega
    have key : ∀ i, i < n → ∃ p : α, ok p ∧ ∀ (j : Nat) (v : Value), (cells p)[j]? = some v → W.cell? ((a.add (i * size)).add j) = some v := fun i hi' => by
      obtain ⟨cs', hc, ht⟩ := hi i (by omega)
      rw [hC] at hc
      obtain ⟨x, rfl, hok⟩ := hE _ _ _ ht
      obtain ⟨_, _, hat⟩ := World.cells?_some hc
      refine ⟨x, hok, fun j v hv => ?_⟩
      have hj : j < size := by rw [← hz x]; exact (List.getElem?_eq_some_iff.1 hv).1
      rw [hat j hj]
      simpa using hv
    obtain ⟨f, hfn⟩ : ∃ f : Nat → α, ∀ i, i < n → ok (f i) ∧ ∀ (j : Nat) (v : Value), (cells (f i))[j]? = some v → W.cell? ((a.add (i * size)).add j) = some v :=
      ⟨fun i => if h : i < n then (key i h).choose else default, fun i h => by simp only [dif_pos h]; exact (key i h).choose_spec⟩
    clear key
    refine ⟨some a, n, c, (List.range n).map f, rfl, hl, ⟨by simp, fun hn => ?_⟩, ?_, .inr ⟨_, _, hd', by simp⟩⟩
    · have hc0 : ∃ v0, (cells (f 0))[0]? = some v0 := ⟨_, List.getElem?_eq_getElem (by rw [hz]; exact h0)⟩
      obtain ⟨v0, hv0⟩ := hc0
      have h00 := (hfn 0 hn).2 0 v0 hv0
      obtain ⟨b, off, spot⟩ := a
      have hspot : spot = none := by
        simpa [Addr.add] using World.cell?_spot h00
      subst hspot
      refine ⟨b, off, rfl, ?_, fun i p hp j v hv => ?_⟩
      · rw [Go.WideShapes.add_plain, Go.WideShapes.add_plain] at h00
        rcases Nat.lt_or_ge b W.heap.size with hlt | hge
        · exact hlt
        · simp [World.cell?, Array.getElem?_eq_none hge] at h00
      · have hi2 : i < n := by
          have := (List.getElem?_eq_some_iff.1 hp).1
          simpa using this
        rw [List.getElem?_map, List.getElem?_range hi2] at hp
        simp only [Option.map_some] at hp
        injection hp with hp
        subst hp
        have := (hfn i hi2).2 j v hv
        rw [Go.WideShapes.add_plain, Go.WideShapes.add_plain] at this
        exact this
    · intro p hp
      obtain ⟨i, hi1, rfl⟩ := List.mem_map.1 hp
      exact (hfn i (List.mem_range.1 hi1)).1

theorem bulk_in {H : Type} : ∀ (l : List (DataW H)) (d : DataW H), d ∈ l → Rows.uptoBulk d ≤ Rows.uptoBulkAll l
  | [], d, h => by cases h
  | x :: r, d, h => by
    simp only [Rows.uptoBulkAll]
    rcases List.mem_cons.1 h with rfl | h
    · omega
    · have := bulk_in r d h; omega
theorem bulk_mem {H : Type} {ds : List (DataW H)} (elems spare : List (DataW H)) (hm : DataW.slice elems spare ∈ ds) (hk : Rows.uptoSmall H ds = true) : elems.length ≤ 1048576 := by
  have h : Rows.uptoBulkAll ds ≤ 1048576 := of_decide_eq_true hk
  have h1 := bulk_in ds _ hm
  simp only [Rows.uptoBulk] at h1
  have h2 := bulk_length elems
  omega

/-- a call: kind, tick, journey, state -/
structure OpV where
  kind : Int
  tick : Int
  k : List Value
  s : Int
instance : Inhabited OpV := ⟨⟨0, 0, JK, 0⟩⟩
def fixK (k : List Value) : List Value := if k.length = 16 then k else JK
theorem fixK_len (k : List Value) : (fixK k).length = 16 := by unfold fixK; split <;> first | assumption | rfl
theorem fixK_id {k : List Value} (h : k.length = 16) : fixK k = k := if_pos h
def OpV.cells (o : OpV) : List Value := .int .i64 o.kind :: .int .i64 o.tick :: (fixK o.k ++ [.int .u8 o.s])
structure OpV.ok (o : OpV) : Prop where
  kind : (Lit.int .i64 o.kind).wf = true
  tick : (Lit.int .i64 o.tick).wf = true
  k : Bs 16 o.k
  s : (Lit.int .u8 o.s).wf = true
theorem OpV.ok.cells {o : OpV} (h : o.ok) : o.cells = .int .i64 o.kind :: .int .i64 o.tick :: (o.k ++ [.int .u8 o.s]) := by unfold OpV.cells; rw [fixK_id h.k.1]
section
variable {H : Type} {enc : TypeId × Value → H} {W : World} {base : Nat} {v : Value} {d : DataW H} {ps : List MemPlace} {r : Reach} {b0 : Nat} {held : Bool} {sp : Nat → Bool}
theorem int_cells {fuel : Nat} {cs : List Value} {x : DataW H × List MemPlace} (h : DataW.trod enc Tryz.prog W base sp held fuel 3 cs = some x) : ∃ n : Int, cs = [.int .i64 n] ∧ (Lit.int .i64 n).wf = true := by
  obtain ⟨n, e, _, w⟩ := DataW.trod_int Tryz.underlying3 h
  exact ⟨n, e, w⟩
theorem id_cells {fuel : Nat} {cs : List Value} {x : DataW H × List MemPlace} (h : DataW.trod enc Tryz.prog W base sp held fuel 57 cs = some x) : Bs 8 cs := by
  obtain ⟨xs, m, _, _, hl, hn, hi⟩ := DataW.trod_array Tryz.underlying57 h
  have hc : Tryz.prog.cellsOf 57 = 8 := by kernel_rfl
  have hc1 : Tryz.prog.cellsOf 5 = 1 := by kernel_rfl
  rw [hc] at hl
  refine ⟨hl, fun u hu => ?_⟩
  obtain ⟨i, hi'⟩ := List.mem_iff_getElem?.1 hu
  have hlt : i < 8 := by rw [← hl]; exact (List.getElem?_eq_some_iff.1 hi').1
  have h1 := hi i hlt
  rw [hc1, Nat.mul_one, take_one hi', List.getElem?_eq_getElem (by rw [hn]; exact hlt)] at h1
  obtain ⟨n, e, _, w⟩ := DataW.trod_int Tryz.underlying5 h1
  injection e with e _
  exact ⟨n, e, w⟩
theorem j_cells {fuel : Nat} {cs : List Value} {x : DataW H × List MemPlace} (h : DataW.trod enc Tryz.prog W base sp held fuel 59 cs = some x) : Bs 16 cs := by
  obtain ⟨y0, y1, n, _, hl, h0, h1⟩ := trod_struct2 Tryz.underlying59 h
  have hc : Tryz.prog.cellsOf 59 = 16 := by kernel_rfl
  have hc1 : Tryz.prog.cellsOf 57 = 8 := by kernel_rfl
  rw [hc] at hl
  simp only [hc1, List.drop_zero] at h0 h1
  have b0 := id_cells h0
  have b1 := id_cells h1
  have e : cs = cs.take 8 ++ (cs.drop 8).take 8 := by
    rw [List.take_of_length_le (l := cs.drop 8) (by rw [List.length_drop, hl]; exact Nat.le_refl _), List.take_append_drop]
  refine ⟨hl, fun u hu => ?_⟩
  rw [e] at hu
  rcases List.mem_append.1 hu with hu | hu
  · exact b0.2 u hu
  · exact b1.2 u hu
theorem op_cells {fuel : Nat} {cs : List Value} {x : DataW H × List MemPlace} (h : DataW.trod enc Tryz.prog W base sp held fuel 62 cs = some x) : ∃ o : OpV, cs = o.cells ∧ o.ok := by
  obtain ⟨y0, y1, y2, y3, n, _, hl, h0, h1, h2, h3⟩ := Joins.trod_struct4 Tryz.underlying62 h
  have hc : Tryz.prog.cellsOf 62 = 19 := by kernel_rfl
  have hc1 : Tryz.prog.cellsOf 3 = 1 := by kernel_rfl
  have hc2 : Tryz.prog.cellsOf 59 = 16 := by kernel_rfl
  have hc3 : Tryz.prog.cellsOf 60 = 1 := by kernel_rfl
  rw [hc] at hl
  simp only [hc1, hc2, hc3] at h0 h1 h2 h3
  obtain ⟨a0, e0, w0⟩ := int_cells h0
  obtain ⟨a1, e1, w1⟩ := int_cells h1
  have b2 := j_cells h2
  obtain ⟨a3, e3, _, w3⟩ := DataW.trod_int Tryz.underlying60 h3
  match cs, hl with
  | c0 :: c1 :: l, hl =>
    simp at e0 e1
    subst e0 e1
    simp only [List.drop_succ_cons, List.drop_zero] at b2 e3
    have hl' : l.length = 17 := by simp only [List.length_cons] at hl; omega
    refine ⟨⟨a0, a1, l.take 16, a3⟩, ?_, w0, w1, b2, w3⟩
    have e : l = l.take 16 ++ [.int .u8 a3] := by
      conv => lhs; rw [← List.take_append_drop 16 l]
      rw [List.take_of_length_le (by rw [List.length_drop, hl']; decide)] at e3
      rw [e3]
    unfold OpV.cells
    rw [fixK_id b2.1, ← e]
set_option maxRecDepth 100000 in
theorem open_op (hval : Value.okWide Tryz.prog W r b0 62 v) (hd : DataW.Trod enc Tryz.prog W base sp held 62 v d ps) : ∃ o : OpV, v = .agg o.cells.toArray ∧ o.ok := by
  obtain ⟨cs, rfl, hs⟩ := okWide_struct Tryz.underlying62 hval
  obtain ⟨fuel, hf⟩ := hd
  obtain ⟨o, h1, h2⟩ := op_cells hf
  simp only [Value.cells] at h1
  exact ⟨o, by rw [← h1], h2⟩
set_option maxRecDepth 100000 in
theorem open_j (hval : Value.okWide Tryz.prog W r b0 59 v) (hd : DataW.Trod enc Tryz.prog W base sp held 59 v d ps) : ∃ k : List Value, v = .agg k.toArray ∧ Bs 16 k := by
  obtain ⟨cs, rfl, hs⟩ := okWide_struct Tryz.underlying59 hval
  obtain ⟨fuel, hf⟩ := hd
  exact ⟨cs.toList, by simp, j_cells hf⟩
end
section
variable {o : OpV} {u : World} {b : Nat}
theorem op_facts (ho : o.ok) {t : TypeId} (hb : u.heap[b]? = some (.cells o.cells.toArray t (0, 0))) : u.cell? ⟨b, 0, none⟩ = some (.int .i64 o.kind) ∧ u.cell? ⟨b, 1, none⟩ = some (.int .i64 o.tick) ∧ u.cell? ⟨b, 18, none⟩ = some (.int .u8 o.s) ∧ u.rangeAt b 2 o.k ∧ u.rangeAt b 10 (o.k.drop 8) := by
  refine ⟨?_, ?_, ?_, ?_, ?_⟩
  · rw [cell_of_row u b 0 _ _ _ hb]; rfl
  · rw [cell_of_row u b 1 _ _ _ hb]; rfl
  · rw [cell_of_row u b 18 _ _ _ hb, List.getElem?_toArray, ho.cells, List.getElem?_cons_succ, List.getElem?_cons_succ, List.getElem?_append_right (by rw [ho.k.1]; omega), ho.k.1]; rfl
  · exact range_sub hb 2 (a := [.int .i64 o.kind, .int .i64 o.tick]) (z := [.int .u8 o.s]) (by rw [ho.cells]; rfl) rfl
  · exact range_sub hb 10 (a := [.int .i64 o.kind, .int .i64 o.tick] ++ o.k.take 8) (z := [.int .u8 o.s]) (by rw [ho.cells]; simp only [List.cons_append, List.nil_append, List.append_assoc]; rw [← List.append_assoc (o.k.take 8), List.take_append_drop]) (by simp [ho.k.1])
end
/-- blocks that stay -/
def Bk (w0 : World) (bs : List (Nat × Obj)) (u : World) : Prop := Below w0.heap.size w0 u ∧ ∀ p ∈ bs, u.heap[p.1]? = some p.2
section
variable {w0 u v : World} {bs : List (Nat × Obj)}
theorem Bk.at (s : Bk w0 bs u) {b : Nat} {o : Obj} (h : (b, o) ∈ bs) : u.heap[b]? = some o := s.2 _ h
theorem Bk.up (s : Bk w0 bs u) (h : Below u.heap.size u v) : Bk w0 bs v :=
  ⟨s.1.trans (h.mono s.1.size), fun p hp => (h.block _ (Array.getElem?_eq_some_iff.1 (s.2 p hp)).1).trans (s.2 p hp)⟩
theorem Bk.add (s : Bk w0 bs u) (h : Below u.heap.size u v) {b : Nat} {o : Obj} (ho : v.heap[b]? = some o) : Bk w0 ((b, o) :: bs) v :=
  ⟨s.1.trans (h.mono s.1.size), fun p hp => by
    rcases List.mem_cons.1 hp with rfl | hp
    · exact ho
    · exact (s.up h).2 p hp⟩
theorem Bk.alloc (s : Bk w0 bs u) (o : Obj) : Bk w0 ((u.heap.size, o) :: bs) (u.alloc o) := s.add ((Below.refl _ u).alloc (Nat.le_refl _) _) (heap_last u o)
theorem Bk.box (s : Bk w0 bs u) (z cs : Array Value) (t : TypeId) : Bk w0 ((u.heap.size, .cells cs t (0, 0)) :: bs) ((u.alloc (.cells z t)).setRow u.heap.size cs) :=
  s.add (Below.setRow ((Below.refl _ u).alloc (Nat.le_refl _) _) (Nat.le_refl _) _) (setRow_heap _ _ _ _ _ _ (heap_last u _))
theorem Bk.gives (s : Bk w0 bs u) {f : FuncId} {args : Array Value} {r : Value} (h : Calls Tryz.prog f args u (Gives r u)) : Calls Tryz.prog f args u fun e w' => e = .returned r ∧ Bk w0 bs w' :=
  h.mono fun e w' ⟨he, x, hx⟩ => ⟨he, hx ▸ s.up x.h⟩
end
end Go.Proofs.YtnooghehmgbemaaGreat
