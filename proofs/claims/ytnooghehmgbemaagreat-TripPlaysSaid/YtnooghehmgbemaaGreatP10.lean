/- TripPlays: a call of both. -/
import Derived.Test.YtnooghehmgbemaaGreatP9
namespace Go.Proofs.YtnooghehmgbemaaGreat
open Go.RowKit
set_option linter.unusedVariables false
set_option linter.unusedSimpArgs false

theorem assign_len {q : St} {tick : Int} {k : List Value} : (q.assign tick k).2.l.length ≤ q.l.length + 1 := by
  classical
  unfold St.assign
  split
  · simp
  · split <;> simp
theorem go_len {q : St} {tick s : Int} {k : List Value} : (q.go tick k s).2.l.length ≤ q.l.length + 1 := by
  unfold St.go
  split
  · simp
  · split
    · simp
    · split
      · simp
      · split <;> simp
theorem tripV_one (o : Option Tr) (ho : ∀ t, o = some t → t.ok) : ∃ (X : Tr) (ob : Bool), X.ok ∧ tripV o = .tuple #[.agg X.cells.toArray, .bool ob] := by
  cases o with
  | none => exact ⟨ZT, false, zt_ok, by rw [zt_cells]; rfl⟩
  | some t => exact ⟨t, true, ho t rfl, rfl⟩
/-- List, what it answers ready to be kept -/
theorem Tri.listed {w0 w : World} {T0 R0 K0 : Nat → Prop} {tb rb kb : Nat} {q qr : St} {es : List HE} {bs : List (Nat × Obj)} (s : Tri w0 T0 R0 K0 w tb rb kb q qr es bs) (hn : q.l.length ≤ 1048576) :
    Calls Tryz.prog 8 #[.pointer (some ⟨tb, 0, none⟩)] w fun e w' => ∃ (v : Value) (e0 : HE) (cs : List (Nat × Obj)), e = .returned v ∧ e0.v = v ∧ e0.num = (es.length : Int) + 1 ∧ e0.len ≤ 1048576 ∧ e0.New w' ∧ (∀ b, e0.g = some b → w0.heap.size ≤ b ∧ (b, (w'.heap[b]?).getD (.cells #[] 83 (0, 0))) ∈ cs ++ bs) ∧ Tri w0 T0 R0 K0 w' tb rb kb q qr es (cs ++ bs) ∧ ∀ u : World, (∀ p ∈ cs ++ bs, u.heap[p.1]? = some p.2) → RowT u v q.l := by
  have hz := s.size
  obtain ⟨F, hF⟩ := s.trip
  refine (list_ok hF hn).mono ?_
  rintro e w' ⟨v, rfl, hb, ho⟩
  rcases ho.2 with ⟨rfl, h0⟩ | ⟨g, cap, cur, rfl, hg, h1, h2, h3, h4, h5⟩
  · exact ⟨_, ⟨none, 0, 0, es.length + 1⟩, [], rfl, rfl, rfl, Nat.zero_le _, .inl ⟨rfl, rfl, rfl⟩, fun b hb => (by cases hb), s.up hb, fun u _ => by rw [List.eq_nil_of_length_eq_zero h0]; exact RowT.nil u⟩
  · refine ⟨_, ⟨some g, q.l.length, cap, es.length + 1⟩, [(g, .cells cur 83 (0, 0))], rfl, rfl, rfl, hn, .inr ⟨g, cur, rfl, h1, h2, h3, h4⟩, fun b hb => ?_, s.add hb hg h1, fun u hu => ?_⟩
    · injection hb with hb; subst hb
      exact ⟨by omega, by rw [h1]; simp⟩
    · exact ⟨_, cap, rfl, fun _ => ⟨g, cur, rfl, hu (g, _) (by simp), h5⟩⟩
section
variable {w : World} {T0 R0 K0 : Nat → Prop} {tb rb kb : Nat} {q : St} {es : List HE}
set_option maxRecDepth 20000 in
set_option maxHeartbeats 16000000 in
theorem does_ok (hT : TripsAt T0 w tb q) (hR : RefAt R0 w rb q) (hK : BookAt K0 w kb es) (h1 : ∀ j, T0 j → ¬ R0 j) (h2 : ∀ j, T0 j → ¬ K0 j) (h3 : ∀ j, R0 j → ¬ K0 j) (o : OpV) (ho : o.ok) (hn : q.l.length ≤ 1048575) (he : es.length ≤ 3000000) :
    Calls Tryz.prog 7 #[.pointer (some ⟨tb, 0, none⟩), .pointer (some ⟨rb, 0, none⟩), .agg o.cells.toArray, .pointer (some ⟨kb, 0, none⟩)] w fun e w' => e = .returned (.bool true) ∧ ∃ q' es', Tri w T0 R0 K0 w' tb rb kb q' q' es' [] ∧ q'.l.length ≤ q.l.length + 1 ∧ es'.length ≤ es.length + 1 := by
  have S := (tri_first hT hR hK h1 h2 h3).alloc (.cells o.cells.toArray 62)
  have HO := Lib.hid ho
  have HQ := Lib.hid hT.2.1
  have k0 := (op_facts ho (S.at (b := w.heap.size) (o := .cells o.cells.toArray 62 (0, 0)) (by simp))).1
  clear hT hR hK h1 h2 h3 ho
  go_enter Tryz.func7, Tryz.ntmps7
  by_cases e1 : o.kind = 1
  · have d1 : (o.kind == 1) = true := by rw [e1]; rfl
    clear e1
    go_wp2_with fail
    obtain ⟨b6, hb6⟩ : ∃ b6, b6 = w.heap.size := ⟨_, rfl⟩
    rw [← hb6] at S ⊢
    have HB6 := Lib.hid hb6
    clear hb6 k0
    generalize w.alloc (.cells o.cells.toArray 62) = w1 at *
    refine wp_region_held_drew (S := (fun u => u.heap[b6]? = some (.cells o.cells.toArray 62 (0, 0)))) (by kernel_rfl) (S.drew.at (by simp)) ?_
    intro hS
    refine wpAnyH_take (i := 0) (oi := { dst := some 22, op := Op.move (Operand.tmp 0), type := 24, pos := "law.go:36", after := #[], guard := none }) (v := .pointer (some ⟨tb, 0, none⟩)) rfl (by kernel_rfl) (by kernel_rfl) (by kernel_rfl) (fun _ _ _ h => h) (Or.inl ⟨by rfl, ?_⟩) (by assumption) ?_
    · intro z hz
      go_simp
    try simp only [Act.put, List.setIfInBounds_toArray, List.set_cons_zero, List.set_cons_succ]
    refine wpAnyH_take (i := 1) (oi := { dst := some 23, op := Op.fieldAddr 62 (Operand.tmp 6) 1, type := 0, pos := "law.go:36", after := #[], guard := none }) (v := .pointer (some ⟨b6, 1, none⟩)) rfl (by kernel_rfl) (by kernel_rfl) (by kernel_rfl) (fun _ _ _ h => h) (Or.inl ⟨by rfl, ?_⟩) (by assumption) ?_
    · intro z hz
      go_simp
    try simp only [Act.put, List.setIfInBounds_toArray, List.set_cons_zero, List.set_cons_succ]
    refine wpAnyH_take (i := 2) (oi := { dst := some 24, op := Op.load 3 (Operand.tmp 23), type := 3, pos := "law.go:36", after := #[{ on := 1, ground := Ground.data }], guard := none }) (v := .int .i64 o.tick) rfl (by kernel_rfl) (by kernel_rfl) (by kernel_rfl) (fun _ _ _ h => h) (Or.inl ⟨by rfl, ?_⟩) (by assumption) ?_
    · intro z hz
      have c := (op_facts HO.out hz).2.1
      go_simp
    try simp only [Act.put, List.setIfInBounds_toArray, List.set_cons_zero, List.set_cons_succ]
    refine wpAnyH_take (i := 3) (oi := { dst := some 25, op := Op.fieldAddr 62 (Operand.tmp 6) 2, type := 0, pos := "law.go:36", after := #[], guard := none }) (v := .pointer (some ⟨b6, 2, none⟩)) rfl (by kernel_rfl) (by kernel_rfl) (by kernel_rfl) (fun _ _ _ h => h) (Or.inl ⟨by rfl, ?_⟩) (by assumption) ?_
    · intro z hz
      go_simp
    try simp only [Act.put, List.setIfInBounds_toArray, List.set_cons_zero, List.set_cons_succ]
    refine wpAnyH_take (i := 4) (oi := { dst := some 26, op := Op.load 59 (Operand.tmp 25), type := 59, pos := "law.go:36", after := #[{ on := 3, ground := Ground.data }], guard := none }) (v := .agg o.k.toArray) rfl (by kernel_rfl) (by kernel_rfl) (by kernel_rfl) (fun _ _ _ h => h) (y_load (by rfl) 59 _ (by rfl) b6 2 (by rfl) o.k _ 16 (fun z hz => (op_facts HO.out hz).2.2.2.1) Tryz.underlying59 rfl size25 HO.out.k.1) (by assumption) ?_
    try simp only [Act.put, List.setIfInBounds_toArray, List.set_cons_zero, List.set_cons_succ]
    refine wpAnyH_take (i := 6) (oi := { dst := some 28, op := Op.move (Operand.tmp 1), type := 26, pos := "law.go:36", after := #[], guard := none }) (v := .pointer (some ⟨rb, 0, none⟩)) rfl (by kernel_rfl) (by kernel_rfl) (by kernel_rfl) (fun _ _ _ h => h) (Or.inl ⟨by rfl, ?_⟩) (by assumption) ?_
    · intro z hz
      go_simp
    try simp only [Act.put, List.setIfInBounds_toArray, List.set_cons_zero, List.set_cons_succ]
    refine wpAnyH_take (i := 7) (oi := { dst := some 29, op := Op.fieldAddr 62 (Operand.tmp 6) 1, type := 0, pos := "law.go:36", after := #[], guard := none }) (v := .pointer (some ⟨b6, 1, none⟩)) rfl (by kernel_rfl) (by kernel_rfl) (by kernel_rfl) (fun _ _ _ h => h) (Or.inl ⟨by rfl, ?_⟩) (by assumption) ?_
    · intro z hz
      go_simp
    try simp only [Act.put, List.setIfInBounds_toArray, List.set_cons_zero, List.set_cons_succ]
    refine wpAnyH_take (i := 8) (oi := { dst := some 30, op := Op.load 3 (Operand.tmp 29), type := 3, pos := "law.go:36", after := #[{ on := 7, ground := Ground.data }], guard := none }) (v := .int .i64 o.tick) rfl (by kernel_rfl) (by kernel_rfl) (by kernel_rfl) (fun _ _ _ h => h) (Or.inl ⟨by rfl, ?_⟩) (by assumption) ?_
    · intro z hz
      have c := (op_facts HO.out hz).2.1
      go_simp
    try simp only [Act.put, List.setIfInBounds_toArray, List.set_cons_zero, List.set_cons_succ]
    refine wpAnyH_take (i := 9) (oi := { dst := some 31, op := Op.fieldAddr 62 (Operand.tmp 6) 2, type := 0, pos := "law.go:36", after := #[], guard := none }) (v := .pointer (some ⟨b6, 2, none⟩)) rfl (by kernel_rfl) (by kernel_rfl) (by kernel_rfl) (fun _ _ _ h => h) (Or.inl ⟨by rfl, ?_⟩) (by assumption) ?_
    · intro z hz
      go_simp
    try simp only [Act.put, List.setIfInBounds_toArray, List.set_cons_zero, List.set_cons_succ]
    refine wpAnyH_take (i := 10) (oi := { dst := some 32, op := Op.load 59 (Operand.tmp 31), type := 59, pos := "law.go:36", after := #[{ on := 9, ground := Ground.data }], guard := none }) (v := .agg o.k.toArray) rfl (by kernel_rfl) (by kernel_rfl) (by kernel_rfl) (fun _ _ _ h => h) (y_load (by rfl) 59 _ (by rfl) b6 2 (by rfl) o.k _ 16 (fun z hz => (op_facts HO.out hz).2.2.2.1) Tryz.underlying59 rfl size25 HO.out.k.1) (by assumption) ?_
    try simp only [Act.put, List.setIfInBounds_toArray, List.set_cons_zero, List.set_cons_succ]
    refine wpAnyH_ready (rs := [5]) (by kernel_rfl) (by simp) ?_
    refine AllReadyH.cons (o := { dst := some 27, op := Op.call { callee := Callee.value (Operand.func 14), args := #[Operand.tmp 22, Operand.tmp 24, Operand.tmp 26], argTypes := #[24, 3, 59] }, type := 78, pos := "law.go:36", after := #[{ on := 0, ground := Ground.data }, { on := 2, ground := Ground.data }, { on := 4, ground := Ground.data }], guard := none }) rfl (fun K hK => ?_) AllReadyH.nil
    rw [if_pos (by rfl)]
    refine wp_callv (f := 14) (args := #[.pointer (some ⟨tb, 0, none⟩), .int .i64 o.tick, .agg o.k.toArray]) (v := .int .i64 (q.assign o.tick o.k).1) (by go_simp) (S.drew.turn (fun F h => assign_at h o.tick o.k HO.out.k (by omega))) ?_
    intro w2 S2
    refine hK.out _ _ (S2.at (by simp)) ?_
    clear hK K hS
    intro hS
    try simp only [Act.put, List.setIfInBounds_toArray, List.set_cons_zero, List.set_cons_succ]
    refine wpAnyH_ready (rs := [11]) (by kernel_rfl) (by simp) ?_
    refine AllReadyH.cons (o := { dst := some 33, op := Op.call { callee := Callee.value (Operand.func 15), args := #[Operand.tmp 28, Operand.tmp 30, Operand.tmp 32], argTypes := #[26, 3, 59] }, type := 78, pos := "law.go:36", after := #[{ on := 6, ground := Ground.data }, { on := 8, ground := Ground.data }, { on := 10, ground := Ground.data }, { on := 5, ground := Ground.chain }], guard := none }) rfl (fun K hK => ?_) AllReadyH.nil
    rw [if_pos (by rfl)]
    refine wp_callv (f := 15) (args := #[.pointer (some ⟨rb, 0, none⟩), .int .i64 o.tick, .agg o.k.toArray]) (v := .int .i64 (q.assign o.tick o.k).1) (by go_simp) (S2.rturn (fun F h => ref_assign h HQ.out (by omega) o.tick o.k HO.out.k)) ?_
    intro w3 S3
    refine hK.out _ _ (S3.at (by simp)) ?_
    clear hK K hS
    intro hS
    try simp only [Act.put, List.setIfInBounds_toArray, List.set_cons_zero, List.set_cons_succ]
    refine wpAnyH_take (i := 12) (oi := { dst := some 34, op := Op.binOp BinOp.eql 78 (Operand.tmp 27) (Operand.tmp 33) 78, type := 4, pos := "law.go:36", after := #[{ on := 5, ground := Ground.data }, { on := 11, ground := Ground.data }], guard := none }) (v := .bool true) rfl (by kernel_rfl) (by kernel_rfl) (by kernel_rfl) (fun _ _ _ h => h) (Or.inl ⟨by rfl, ?_⟩) (by assumption) ?_
    · intro z hz
      go_simp
    try simp only [Act.put, List.setIfInBounds_toArray, List.set_cons_zero, List.set_cons_succ]
    refine wpAnyH_take (i := 13) (oi := { dst := some 8, op := Op.assign (Operand.tmp 34), type := 4, pos := "law.go:36", after := #[{ on := 12, ground := Ground.data }, { on := 11, ground := Ground.chain }, { on := 0, ground := Ground.phase }, { on := 1, ground := Ground.phase }, { on := 2, ground := Ground.phase }, { on := 3, ground := Ground.phase }, { on := 4, ground := Ground.phase }, { on := 5, ground := Ground.phase }, { on := 6, ground := Ground.phase }, { on := 7, ground := Ground.phase }, { on := 8, ground := Ground.phase }, { on := 9, ground := Ground.phase }, { on := 10, ground := Ground.phase }, { on := 11, ground := Ground.phase }, { on := 12, ground := Ground.phase }], guard := none }) (v := .bool true) rfl (by kernel_rfl) (by kernel_rfl) (by kernel_rfl) (fun _ _ _ h => h) (Or.inl ⟨by rfl, ?_⟩) (by assumption) ?_
    · intro z hz
      go_simp
    try simp only [Act.put, List.setIfInBounds_toArray, List.set_cons_zero, List.set_cons_succ]
    refine wpAnyH_done (by kernel_rfl) ?_ _
    go_wp2_with fail
    go_ret
    exact ⟨rfl, _, es, S3.sub (by simp), assign_len, Nat.le_succ _⟩
  have d1 : (o.kind == 1) = false := by simpa using e1
  clear e1
  by_cases e2 : o.kind = 2
  · have d2 : (o.kind == 2) = true := by rw [e2]; rfl
    clear e2
    go_wp2_with fail
    obtain ⟨b6, hb6⟩ : ∃ b6, b6 = w.heap.size := ⟨_, rfl⟩
    rw [← hb6] at S ⊢
    have HB6 := Lib.hid hb6
    clear hb6 k0
    generalize w.alloc (.cells o.cells.toArray 62) = w1 at *
    refine wp_region_held_drew (S := (fun u => u.heap[b6]? = some (.cells o.cells.toArray 62 (0, 0)))) (by kernel_rfl) (S.drew.at (by simp)) ?_
    intro hS
    refine wpAnyH_take (i := 0) (oi := { dst := some 37, op := Op.move (Operand.tmp 0), type := 24, pos := "law.go:38", after := #[], guard := none }) (v := .pointer (some ⟨tb, 0, none⟩)) rfl (by kernel_rfl) (by kernel_rfl) (by kernel_rfl) (fun _ _ _ h => h) (Or.inl ⟨by rfl, ?_⟩) (by assumption) ?_
    · intro z hz
      go_simp
    try simp only [Act.put, List.setIfInBounds_toArray, List.set_cons_zero, List.set_cons_succ]
    refine wpAnyH_take (i := 1) (oi := { dst := some 38, op := Op.fieldAddr 62 (Operand.tmp 6) 1, type := 0, pos := "law.go:38", after := #[], guard := none }) (v := .pointer (some ⟨b6, 1, none⟩)) rfl (by kernel_rfl) (by kernel_rfl) (by kernel_rfl) (fun _ _ _ h => h) (Or.inl ⟨by rfl, ?_⟩) (by assumption) ?_
    · intro z hz
      go_simp
    try simp only [Act.put, List.setIfInBounds_toArray, List.set_cons_zero, List.set_cons_succ]
    refine wpAnyH_take (i := 2) (oi := { dst := some 39, op := Op.load 3 (Operand.tmp 38), type := 3, pos := "law.go:38", after := #[{ on := 1, ground := Ground.data }], guard := none }) (v := .int .i64 o.tick) rfl (by kernel_rfl) (by kernel_rfl) (by kernel_rfl) (fun _ _ _ h => h) (Or.inl ⟨by rfl, ?_⟩) (by assumption) ?_
    · intro z hz
      have c := (op_facts HO.out hz).2.1
      go_simp
    try simp only [Act.put, List.setIfInBounds_toArray, List.set_cons_zero, List.set_cons_succ]
    refine wpAnyH_take (i := 3) (oi := { dst := some 40, op := Op.fieldAddr 62 (Operand.tmp 6) 2, type := 0, pos := "law.go:38", after := #[], guard := none }) (v := .pointer (some ⟨b6, 2, none⟩)) rfl (by kernel_rfl) (by kernel_rfl) (by kernel_rfl) (fun _ _ _ h => h) (Or.inl ⟨by rfl, ?_⟩) (by assumption) ?_
    · intro z hz
      go_simp
    try simp only [Act.put, List.setIfInBounds_toArray, List.set_cons_zero, List.set_cons_succ]
    refine wpAnyH_take (i := 4) (oi := { dst := some 41, op := Op.load 59 (Operand.tmp 40), type := 59, pos := "law.go:38", after := #[{ on := 3, ground := Ground.data }], guard := none }) (v := .agg o.k.toArray) rfl (by kernel_rfl) (by kernel_rfl) (by kernel_rfl) (fun _ _ _ h => h) (y_load (by rfl) 59 _ (by rfl) b6 2 (by rfl) o.k _ 16 (fun z hz => (op_facts HO.out hz).2.2.2.1) Tryz.underlying59 rfl size25 HO.out.k.1) (by assumption) ?_
    try simp only [Act.put, List.setIfInBounds_toArray, List.set_cons_zero, List.set_cons_succ]
    refine wpAnyH_take (i := 5) (oi := { dst := some 42, op := Op.fieldAddr 62 (Operand.tmp 6) 3, type := 0, pos := "law.go:38", after := #[], guard := none }) (v := .pointer (some ⟨b6, 18, none⟩)) rfl (by kernel_rfl) (by kernel_rfl) (by kernel_rfl) (fun _ _ _ h => h) (Or.inl ⟨by rfl, ?_⟩) (by assumption) ?_
    · intro z hz
      go_simp
    try simp only [Act.put, List.setIfInBounds_toArray, List.set_cons_zero, List.set_cons_succ]
    refine wpAnyH_take (i := 6) (oi := { dst := some 43, op := Op.load 60 (Operand.tmp 42), type := 60, pos := "law.go:38", after := #[{ on := 5, ground := Ground.data }], guard := none }) (v := .int .u8 o.s) rfl (by kernel_rfl) (by kernel_rfl) (by kernel_rfl) (fun _ _ _ h => h) (Or.inl ⟨by rfl, ?_⟩) (by assumption) ?_
    · intro z hz
      have c := (op_facts HO.out hz).2.2.1
      go_simp
    try simp only [Act.put, List.setIfInBounds_toArray, List.set_cons_zero, List.set_cons_succ]
    refine wpAnyH_take (i := 8) (oi := { dst := some 45, op := Op.move (Operand.tmp 1), type := 26, pos := "law.go:38", after := #[], guard := none }) (v := .pointer (some ⟨rb, 0, none⟩)) rfl (by kernel_rfl) (by kernel_rfl) (by kernel_rfl) (fun _ _ _ h => h) (Or.inl ⟨by rfl, ?_⟩) (by assumption) ?_
    · intro z hz
      go_simp
    try simp only [Act.put, List.setIfInBounds_toArray, List.set_cons_zero, List.set_cons_succ]
    refine wpAnyH_take (i := 9) (oi := { dst := some 46, op := Op.fieldAddr 62 (Operand.tmp 6) 1, type := 0, pos := "law.go:38", after := #[], guard := none }) (v := .pointer (some ⟨b6, 1, none⟩)) rfl (by kernel_rfl) (by kernel_rfl) (by kernel_rfl) (fun _ _ _ h => h) (Or.inl ⟨by rfl, ?_⟩) (by assumption) ?_
    · intro z hz
      go_simp
    try simp only [Act.put, List.setIfInBounds_toArray, List.set_cons_zero, List.set_cons_succ]
    refine wpAnyH_take (i := 10) (oi := { dst := some 47, op := Op.load 3 (Operand.tmp 46), type := 3, pos := "law.go:38", after := #[{ on := 9, ground := Ground.data }], guard := none }) (v := .int .i64 o.tick) rfl (by kernel_rfl) (by kernel_rfl) (by kernel_rfl) (fun _ _ _ h => h) (Or.inl ⟨by rfl, ?_⟩) (by assumption) ?_
    · intro z hz
      have c := (op_facts HO.out hz).2.1
      go_simp
    try simp only [Act.put, List.setIfInBounds_toArray, List.set_cons_zero, List.set_cons_succ]
    refine wpAnyH_take (i := 11) (oi := { dst := some 48, op := Op.fieldAddr 62 (Operand.tmp 6) 2, type := 0, pos := "law.go:38", after := #[], guard := none }) (v := .pointer (some ⟨b6, 2, none⟩)) rfl (by kernel_rfl) (by kernel_rfl) (by kernel_rfl) (fun _ _ _ h => h) (Or.inl ⟨by rfl, ?_⟩) (by assumption) ?_
    · intro z hz
      go_simp
    try simp only [Act.put, List.setIfInBounds_toArray, List.set_cons_zero, List.set_cons_succ]
    refine wpAnyH_take (i := 12) (oi := { dst := some 49, op := Op.load 59 (Operand.tmp 48), type := 59, pos := "law.go:38", after := #[{ on := 11, ground := Ground.data }], guard := none }) (v := .agg o.k.toArray) rfl (by kernel_rfl) (by kernel_rfl) (by kernel_rfl) (fun _ _ _ h => h) (y_load (by rfl) 59 _ (by rfl) b6 2 (by rfl) o.k _ 16 (fun z hz => (op_facts HO.out hz).2.2.2.1) Tryz.underlying59 rfl size25 HO.out.k.1) (by assumption) ?_
    try simp only [Act.put, List.setIfInBounds_toArray, List.set_cons_zero, List.set_cons_succ]
    refine wpAnyH_take (i := 13) (oi := { dst := some 50, op := Op.fieldAddr 62 (Operand.tmp 6) 3, type := 0, pos := "law.go:38", after := #[], guard := none }) (v := .pointer (some ⟨b6, 18, none⟩)) rfl (by kernel_rfl) (by kernel_rfl) (by kernel_rfl) (fun _ _ _ h => h) (Or.inl ⟨by rfl, ?_⟩) (by assumption) ?_
    · intro z hz
      go_simp
    try simp only [Act.put, List.setIfInBounds_toArray, List.set_cons_zero, List.set_cons_succ]
    refine wpAnyH_take (i := 14) (oi := { dst := some 51, op := Op.load 60 (Operand.tmp 50), type := 60, pos := "law.go:38", after := #[{ on := 13, ground := Ground.data }], guard := none }) (v := .int .u8 o.s) rfl (by kernel_rfl) (by kernel_rfl) (by kernel_rfl) (fun _ _ _ h => h) (Or.inl ⟨by rfl, ?_⟩) (by assumption) ?_
    · intro z hz
      have c := (op_facts HO.out hz).2.2.1
      go_simp
    try simp only [Act.put, List.setIfInBounds_toArray, List.set_cons_zero, List.set_cons_succ]
    refine wpAnyH_ready (rs := [7]) (by kernel_rfl) (by simp) ?_
    refine AllReadyH.cons (o := { dst := some 44, op := Op.call { callee := Callee.value (Operand.func 16), args := #[Operand.tmp 37, Operand.tmp 39, Operand.tmp 41, Operand.tmp 43], argTypes := #[24, 3, 59, 60] }, type := 78, pos := "law.go:38", after := #[{ on := 0, ground := Ground.data }, { on := 2, ground := Ground.data }, { on := 4, ground := Ground.data }, { on := 6, ground := Ground.data }], guard := none }) rfl (fun K hK => ?_) AllReadyH.nil
    rw [if_pos (by rfl)]
    refine wp_callv (f := 16) (args := #[.pointer (some ⟨tb, 0, none⟩), .int .i64 o.tick, .agg o.k.toArray, .int .u8 o.s]) (v := .int .i64 (q.go o.tick o.k o.s).1) (by go_simp) (S.drew.turn (fun F h => go_at h o.tick o.s o.k HO.out.k)) ?_
    intro w2 S2
    refine hK.out _ _ (S2.at (by simp)) ?_
    clear hK K hS
    intro hS
    try simp only [Act.put, List.setIfInBounds_toArray, List.set_cons_zero, List.set_cons_succ]
    refine wpAnyH_ready (rs := [15]) (by kernel_rfl) (by simp) ?_
    refine AllReadyH.cons (o := { dst := some 52, op := Op.call { callee := Callee.value (Operand.func 17), args := #[Operand.tmp 45, Operand.tmp 47, Operand.tmp 49, Operand.tmp 51], argTypes := #[26, 3, 59, 60] }, type := 78, pos := "law.go:38", after := #[{ on := 8, ground := Ground.data }, { on := 10, ground := Ground.data }, { on := 12, ground := Ground.data }, { on := 14, ground := Ground.data }, { on := 7, ground := Ground.chain }], guard := none }) rfl (fun K hK => ?_) AllReadyH.nil
    rw [if_pos (by rfl)]
    refine wp_callv (f := 17) (args := #[.pointer (some ⟨rb, 0, none⟩), .int .i64 o.tick, .agg o.k.toArray, .int .u8 o.s]) (v := .int .i64 (q.go o.tick o.k o.s).1) (by go_simp) (S2.rturn (fun F h => ref_go h HQ.out (by omega) o.tick o.s o.k HO.out.k)) ?_
    intro w3 S3
    refine hK.out _ _ (S3.at (by simp)) ?_
    clear hK K hS
    intro hS
    try simp only [Act.put, List.setIfInBounds_toArray, List.set_cons_zero, List.set_cons_succ]
    refine wpAnyH_take (i := 16) (oi := { dst := some 53, op := Op.binOp BinOp.eql 78 (Operand.tmp 44) (Operand.tmp 52) 78, type := 4, pos := "law.go:38", after := #[{ on := 7, ground := Ground.data }, { on := 15, ground := Ground.data }], guard := none }) (v := .bool true) rfl (by kernel_rfl) (by kernel_rfl) (by kernel_rfl) (fun _ _ _ h => h) (Or.inl ⟨by rfl, ?_⟩) (by assumption) ?_
    · intro z hz
      go_simp
    try simp only [Act.put, List.setIfInBounds_toArray, List.set_cons_zero, List.set_cons_succ]
    refine wpAnyH_take (i := 17) (oi := { dst := some 8, op := Op.assign (Operand.tmp 53), type := 4, pos := "law.go:38", after := #[{ on := 16, ground := Ground.data }, { on := 15, ground := Ground.chain }, { on := 0, ground := Ground.phase }, { on := 1, ground := Ground.phase }, { on := 2, ground := Ground.phase }, { on := 3, ground := Ground.phase }, { on := 4, ground := Ground.phase }, { on := 5, ground := Ground.phase }, { on := 6, ground := Ground.phase }, { on := 7, ground := Ground.phase }, { on := 8, ground := Ground.phase }, { on := 9, ground := Ground.phase }, { on := 10, ground := Ground.phase }, { on := 11, ground := Ground.phase }, { on := 12, ground := Ground.phase }, { on := 13, ground := Ground.phase }, { on := 14, ground := Ground.phase }, { on := 15, ground := Ground.phase }, { on := 16, ground := Ground.phase }], guard := none }) (v := .bool true) rfl (by kernel_rfl) (by kernel_rfl) (by kernel_rfl) (fun _ _ _ h => h) (Or.inl ⟨by rfl, ?_⟩) (by assumption) ?_
    · intro z hz
      go_simp
    try simp only [Act.put, List.setIfInBounds_toArray, List.set_cons_zero, List.set_cons_succ]
    refine wpAnyH_done (by kernel_rfl) ?_ _
    go_wp2_with fail
    go_ret
    exact ⟨rfl, _, es, S3.sub (by simp), go_len, Nat.le_succ _⟩
  have d2 : (o.kind == 2) = false := by simpa using e2
  clear e2
  by_cases e3 : o.kind = 3
  · have d3 : (o.kind == 3) = true := by rw [e3]; rfl
    clear e3
    have rk := (op_facts HO.out (S.at (b := w.heap.size) (o := .cells o.cells.toArray 62 (0, 0)) (by simp))).2.2.2.1
    have hkl := HO.out.k.1
    obtain ⟨X, ob, hX, eX⟩ := tripV_one (q.find o.k) (fun t ht => HQ.out.ok t (by first | exact (find_some ht).1 | exact (onD_some ht).1))
    have HX := Lib.hid hX
    go_wp2_with (refine wpList_loadmid_g (by rfl) 59 _ (by rfl) w.heap.size 2 (by rfl) (o.k) _ rk Tryz.underlying59 rfl (by rw [hkl]; exact size25) ?_)
    obtain ⟨b6, hb6⟩ : ∃ b6, b6 = w.heap.size := ⟨_, rfl⟩
    rw [← hb6] at S ⊢
    have HB6 := Lib.hid hb6
    clear hb6 k0
    generalize w.alloc (.cells o.cells.toArray 62) = w1 at *
    clear rk
    have CA := S.gives (by obtain ⟨F, hF⟩ := S.trip; exact get_ok hF o.k HO.out.k)
    rw [eX] at CA
    refine CA.mono ?_
    clear CA S hX
    rintro e w2 ⟨rfl, S⟩
    have T := S.box Z40 X.cells.toArray 83
    have rk := (op_facts HO.out (T.at (b := b6) (o := .cells o.cells.toArray 62 (0, 0)) (by simp))).2.2.2.1
    have hlx := HX.out.length
    have hox := all_oneCell_toArray HX.out.one
    go_wp2_with (first
      | (refine wpList_loadmid_g (by rfl) 59 _ (by rfl) b6 2 (by rfl) (o.k) _ rk Tryz.underlying59 rfl (by rw [hkl]; exact size25) ?_)
      | (refine wpList_allocz rfl 83 (by rfl) Z40 23 zero40 ?_)
      | (refine wpList_storerow rfl 83 _ _ (by rfl) w2.heap.size (by rfl) Z40 X.cells.toArray (by rfl) (heap_last w2 _) (by rw [List.size_toArray, hlx]; exact size40) (by rw [z40s, List.size_toArray, hlx]) hox ?_)
      | fail)
    clear rk S
    have S := T
    clear T
    generalize (w2.alloc (.cells Z40 83)).setRow w2.heap.size X.cells.toArray = u2 at *
    generalize w2.heap.size = b2 at *
    have CA := S.gives (by obtain ⟨F, hF⟩ := S.ref; exact ref_get hF HQ.out (by omega) o.k HO.out.k)
    rw [eX] at CA
    refine CA.mono ?_
    clear CA S eX
    rintro e w3 ⟨rfl, S⟩
    have T := S.box Z40 X.cells.toArray 83
    have q2 := T.at (b := b2) (o := .cells X.cells.toArray 83 (0, 0)) (by simp)
    have q3 := T.at (b := w3.heap.size) (o := .cells X.cells.toArray 83 (0, 0)) (by simp)
    have EX := Lib.hid (eql_same HX.out)
    go_wp2_with (first
      | (refine wpList_allocz rfl 83 (by rfl) Z40 23 zero40 ?_)
      | (refine wpList_storerow rfl 83 _ _ (by rfl) w3.heap.size (by rfl) Z40 X.cells.toArray (by rfl) (heap_last w3 _) (by rw [List.size_toArray, hlx]; exact size40) (by rw [z40s, List.size_toArray, hlx]) hox ?_)
      | (refine wpList_loadrow_g (by rfl) 83 _ (by rfl) b2 (by rfl) X.cells.toArray 83 _ q2 Tryz.underlying83 rfl (by rw [List.size_toArray, hlx]; exact size40) ?_)
      | (refine wpList_loadrow_g (by rfl) 83 _ (by rfl) w3.heap.size (by rfl) X.cells.toArray 83 _ q3 Tryz.underlying83 rfl (by rw [List.size_toArray, hlx]; exact size40) ?_)
      | (refine wpList_eq_g (by rfl) false 83 _ _ _ (by rfl) X.cells.toArray X.cells.toArray (.bool true) (by rfl) (by rfl) guard40 (EX.out _) ?_)
      | fail)
    go_ret
    exact ⟨by simp, q, es, T.sub (by simp), Nat.le_succ _, Nat.le_succ _⟩
  have d3 : (o.kind == 3) = false := by simpa using e3
  clear e3
  by_cases e4 : o.kind = 4
  · have d4 : (o.kind == 4) = true := by rw [e4]; rfl
    clear e4
    have rk := (op_facts HO.out (S.at (b := w.heap.size) (o := .cells o.cells.toArray 62 (0, 0)) (by simp))).2.2.2.2
    have hkl := (Bs.drop (n := 8) (m := 8) HO.out.k).1
    obtain ⟨X, ob, hX, eX⟩ := tripV_one (q.onD (o.k.drop 8)) (fun t ht => HQ.out.ok t (by first | exact (find_some ht).1 | exact (onD_some ht).1))
    have HX := Lib.hid hX
    go_wp2_with (refine wpList_loadmid_g (by rfl) 57 _ (by rfl) w.heap.size 10 (by rfl) (o.k.drop 8) _ rk Tryz.underlying57 rfl (by rw [hkl]; exact size23) ?_)
    obtain ⟨b6, hb6⟩ : ∃ b6, b6 = w.heap.size := ⟨_, rfl⟩
    rw [← hb6] at S ⊢
    have HB6 := Lib.hid hb6
    clear hb6 k0
    generalize w.alloc (.cells o.cells.toArray 62) = w1 at *
    clear rk
    have CA := S.gives (by obtain ⟨F, hF⟩ := S.trip; exact of_ok hF (o.k.drop 8) (Bs.drop (n := 8) HO.out.k))
    rw [eX] at CA
    refine CA.mono ?_
    clear CA S hX
    rintro e w2 ⟨rfl, S⟩
    have T := S.box Z40 X.cells.toArray 83
    have rk := (op_facts HO.out (T.at (b := b6) (o := .cells o.cells.toArray 62 (0, 0)) (by simp))).2.2.2.2
    have hlx := HX.out.length
    have hox := all_oneCell_toArray HX.out.one
    go_wp2_with (first
      | (refine wpList_loadmid_g (by rfl) 57 _ (by rfl) b6 10 (by rfl) (o.k.drop 8) _ rk Tryz.underlying57 rfl (by rw [hkl]; exact size23) ?_)
      | (refine wpList_allocz rfl 83 (by rfl) Z40 23 zero40 ?_)
      | (refine wpList_storerow rfl 83 _ _ (by rfl) w2.heap.size (by rfl) Z40 X.cells.toArray (by rfl) (heap_last w2 _) (by rw [List.size_toArray, hlx]; exact size40) (by rw [z40s, List.size_toArray, hlx]) hox ?_)
      | fail)
    clear rk S
    have S := T
    clear T
    generalize (w2.alloc (.cells Z40 83)).setRow w2.heap.size X.cells.toArray = u2 at *
    generalize w2.heap.size = b2 at *
    have CA := S.gives (by obtain ⟨F, hF⟩ := S.ref; exact ref_of hF HQ.out (by omega) (o.k.drop 8) (Bs.drop (n := 8) HO.out.k))
    rw [eX] at CA
    refine CA.mono ?_
    clear CA S eX
    rintro e w3 ⟨rfl, S⟩
    have T := S.box Z40 X.cells.toArray 83
    have q2 := T.at (b := b2) (o := .cells X.cells.toArray 83 (0, 0)) (by simp)
    have q3 := T.at (b := w3.heap.size) (o := .cells X.cells.toArray 83 (0, 0)) (by simp)
    have EX := Lib.hid (eql_same HX.out)
    go_wp2_with (first
      | (refine wpList_allocz rfl 83 (by rfl) Z40 23 zero40 ?_)
      | (refine wpList_storerow rfl 83 _ _ (by rfl) w3.heap.size (by rfl) Z40 X.cells.toArray (by rfl) (heap_last w3 _) (by rw [List.size_toArray, hlx]; exact size40) (by rw [z40s, List.size_toArray, hlx]) hox ?_)
      | (refine wpList_loadrow_g (by rfl) 83 _ (by rfl) b2 (by rfl) X.cells.toArray 83 _ q2 Tryz.underlying83 rfl (by rw [List.size_toArray, hlx]; exact size40) ?_)
      | (refine wpList_loadrow_g (by rfl) 83 _ (by rfl) w3.heap.size (by rfl) X.cells.toArray 83 _ q3 Tryz.underlying83 rfl (by rw [List.size_toArray, hlx]; exact size40) ?_)
      | (refine wpList_eq_g (by rfl) false 83 _ _ _ (by rfl) X.cells.toArray X.cells.toArray (.bool true) (by rfl) (by rfl) guard40 (EX.out _) ?_)
      | fail)
    go_ret
    exact ⟨by simp, q, es, T.sub (by simp), Nat.le_succ _, Nat.le_succ _⟩
  have d4 : (o.kind == 4) = false := by simpa using e4
  clear e4
  have HL := Lib.hid (fun (u : World) (S : Tri w T0 R0 K0 u tb rb kb q q es [(w.heap.size, .cells o.cells.toArray 62 (0, 0))]) => S.listed (by omega : q.l.length ≤ 1048576))
  go_wp2_with fail
  refine (HL.out _ S).mono ?_
  clear S HL k0
  rintro e w2 ⟨v, e0, cs, rfl, hev, hnum, hcap, hnew, hin, S, hrow⟩
  subst hev
  have HROW := Lib.hid hrow
  have HIN := Lib.hid hin
  have HNEW := Lib.hid hnew
  go_wp2_with fail
  refine (trips_keep (S.keep e0 hnum hnew (fun b hb => ⟨(hin b hb).1, _, (hin b hb).2⟩) hcap (by omega))).mono ?_
  clear hnum hnew hin hcap hrow S
  rintro en w3 ⟨rfl, S3, hbs⟩
  have HBS := Lib.hid hbs
  clear hbs
  go_wp2_with fail
  have CL := (by obtain ⟨F, hF⟩ := S3.ref; exact ref_list hF HQ.out (by omega) : Calls Tryz.prog 11 #[.pointer (some ⟨rb, 0, none⟩)] w3 fun e w' => ∃ v, e = .returned v ∧ Below w3.heap.size w3 w' ∧ w'.ownsRow w3.heap.size 83 23 v q.l.length ((q.l.map Tr.cells).flatMap id))
  refine CL.mono ?_
  clear CL
  rintro e w4 ⟨v2, rfl, hb4, ho4⟩
  have S4 := S3.up hb4
  have hv1 : RowT w4 e0.v q.l := (HROW.out w3 HBS.out).below hb4 (Nat.le_refl _)
  have hv2 : RowT w4 v2 q.l := RowT.of_own ho4
  have CS := S4.gives (same_ok q.l HQ.out.ok (by omega) e0.v v2 w4 hv1 hv2)
  clear hv1 hv2 S3 hb4 ho4
  go_wp2_with fail
  refine CS.mono ?_
  clear CS S4
  rintro e w5 ⟨rfl, S5⟩
  go_wp2_with fail
  go_ret
  exact ⟨rfl, q, es ++ [e0], S5.sub (by simp), Nat.le_succ _, by simp⟩
end
end Go.Proofs.YtnooghehmgbemaaGreat
