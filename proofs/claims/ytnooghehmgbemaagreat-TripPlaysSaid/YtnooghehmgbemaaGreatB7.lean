/- Trip: laws at operations (a part of a row; a slice of one; append), and List. -/
import Derived.Test.YtnooghehmgbemaaGreatB6
import Derived.Great.BuildSlice
import Derived.Deep.AppendLies
import Derived.OwnWalk
namespace Go.Proofs.YtnooghehmgbemaaGreat
open Go.RowKit
set_option linter.unusedVariables false
set_option linter.unusedSimpArgs false

theorem info25 : (Tryz.prog.info? 59).map (fun i => (i.zero, i.size, i.bytes)) = some (some (.agg Z25), 16, 16) := by kernel_rfl
theorem info40 : (Tryz.prog.info? 83).map (fun i => (i.zero, i.size, i.bytes)) = some (some (.agg Z40), 23, 72) := by kernel_rfl
theorem range_sub {w : World} {b : Nat} {k : List Value} {t : TypeId} {fr : Nat × Nat} (hb : w.heap[b]? = some (.cells k.toArray t fr)) (o : Nat) {cs : List Value} {a z : List Value} (hk : k = a ++ cs ++ z) (ha : a.length = o) : w.rangeAt b o cs := fun j v hv => by
  rw [cell_of_row w b (o + j) _ t fr hb]
  have hj : j < cs.length := (List.getElem?_eq_some_iff.1 hv).1
  subst ha
  rw [List.getElem?_toArray, hk, List.append_assoc, List.getElem?_append_right (by omega), Nat.add_sub_cancel_left, List.getElem?_append_left hj]
  exact hv
theorem range_of {w : World} {b : Nat} {C : Array Value} {t : TypeId} {fr : Nat × Nat} (hb : w.heap[b]? = some (.cells C t fr)) (o m : Nat) {cs a z : List Value} (hk : C.toList.take m = a ++ cs ++ z) (ha : a.length = o) : w.rangeAt b o cs := fun j v hv => by
  rw [cell_of_row w b (o + j) _ t fr hb]
  have hj : j < cs.length := (List.getElem?_eq_some_iff.1 hv).1
  subst ha
  have h1 : (C.toList.take m)[a.length + j]? = some v := by
    rw [hk, List.append_assoc, List.getElem?_append_right (by omega), Nat.add_sub_cancel_left, List.getElem?_append_left hj]
    exact hv
  rw [List.getElem?_take] at h1
  split at h1
  · simpa using h1
  · cases h1
theorem flat_split {l : List (List Value)} {j : Nat} {k : List Value} (h : l[j]? = some k) : l.flatMap id = (l.take j).flatMap id ++ k ++ (l.drop (j + 1)).flatMap id := by
  obtain ⟨hj, rfl⟩ := List.getElem?_eq_some_iff.1 h
  have e : l = l.take j ++ l[j] :: l.drop (j + 1) := by rw [← List.drop_eq_getElem_cons hj, List.take_append_drop]
  conv => lhs; rw [e]
  rw [List.flatMap_append, List.flatMap_cons, List.append_assoc]; rfl
theorem flat_len {m : Nat} : ∀ (l : List (List Value)), (∀ k ∈ l, k.length = m) → (l.flatMap id).length = l.length * m
  | [], _ => by simp
  | a :: r, h => by
    rw [List.flatMap_cons, List.length_append, flat_len r (fun k hk => h k (List.mem_cons_of_mem _ hk)), List.length_cons, Nat.add_mul, id, h a (List.mem_cons_self ..)]; omega
theorem flat_snoc {l : List (List Value)} {j : Nat} {k : List Value} (h : l[j]? = some k) : (l.take j).flatMap id ++ k = (l.take (j + 1)).flatMap id := by
  obtain ⟨hj, rfl⟩ := List.getElem?_eq_some_iff.1 h
  rw [List.take_succ_eq_append_getElem hj, List.flatMap_append]; simp
section
variable {P : Program} {ops : Array Oper} {rest : List Oper} {o : Oper} {a : Act} {w : World} {K : Act → World → Prop} {Q : Exit → Act → World → Prop} {S : World → Prop}
/-- a slice of one -/
theorem wp_build1 (t e : TypeId) (x : Operand) (ho : o.op = .buildSlice t 1 #[(0, x)]) (cs z : Array Value) (n bytes : Nat) (hu : P.underlying t = some (.slice e)) (hi : (P.info? e).map (fun i => (i.zero, i.size, i.bytes)) = some (some (.agg z), n, bytes)) (hx : a.eval x = .agg cs) (hn : cs.size = n) (hz : z.size = n) (h0 : 0 < n) (hs : n < 1000)
    (h : K (a.put o.dst (.slice (some ⟨w.heap.size, 0, none⟩) 1 1)) (w.alloc (.cells cs e))) : o.wp P a w K Q := by
  obtain ⟨i, hi1, hi2, hi3, hi4⟩ := info_parts hi
  refine wp_buildSlice t e 1 _ ho cs i (.agg z) hu hi1 hi2 (by rw [hi3]; omega) (by rw [hi3]; omega) ?_ h
  have := Great.fill_whole h0 [Value.agg cs] ((Array.range (1 * i.size)).map ((Value.agg z).cells[· % (Value.agg z).cells.size]!)) (by simp [Value.cells, hn]) (by simp [hi3])
  rw [hi3] at this ⊢
  simpa [hx, Value.cells] using this
end
/-! ### List -/
set_option maxHeartbeats 2000000 in
theorem list_nil (w : World) : Calls Tryz.prog 8 #[.pointer none] w (Gives (.slice none 0 0) w) := by
  go_enter Tryz.func8, Tryz.ntmps8
  go_wp2
  go_ret
  exact gives_same
set_option maxHeartbeats 2000000 in
theorem list_zero (tb : Nat) (w : World) (c1 : w.cell? ⟨tb, 1, none⟩ = some (.slice none 0 0)) : Calls Tryz.prog 8 #[.pointer (some ⟨tb, 0, none⟩)] w (Gives (.slice none 0 0) w) := by
  go_enter Tryz.func8, Tryz.ntmps8
  go_wp2_with fail
  go_loopg [3, 13] 0 (fun gk v3 v13 wr => v3 = .slice none 0 0 ∧ v13 = .int .i64 0 ∧ wr = w)
  case atStart => exact ⟨rfl, rfl, rfl⟩
  case round =>
    obtain ⟨rfl, rfl, rfl⟩ := hrel
    go_wp2_with fail
    go_ret
    exact gives_same
theorem Below.grownBy {B : Nat} {w u u' : World} {row : Option Nat} (h : Below B w u) (hg : u.grownBy u' row) (hr : ∀ q, row = some q → B ≤ q) (hB : B ≤ u.heap.size) : Below B w u' :=
  ⟨hg.os.trans h.os, hg.tape.trans h.tape, hg.output.trans h.output, Nat.le_trans h.size hg.size, fun k hk => (hg.block k (by omega) (fun e => by have := hr k e.symm; omega)).trans (h.block k hk)⟩
set_option maxRecDepth 20000 in
set_option maxHeartbeats 4000000 in
theorem list_at (tb : Nat) (mv ov : Value) (B0 n : Nat) (ks rs : List (List Value)) (w : World) (c1 : w.cell? ⟨tb, 1, none⟩ = some ov) (c2 : w.cell? ⟨tb, 2, none⟩ = some mv) (hown : w.ownsRow B0 59 16 ov n (ks.flatMap id)) (hkn : ks.length = n) (hrn : rs.length = n)
    (hks : ∀ k ∈ ks, Bs 16 k) (hrs : ∀ r ∈ rs, r.length = 23 ∧ ∀ u ∈ r, u.oneCell' = true) (hn : n ≤ 1048576)
    (hruns : ∀ (j : Nat) k r, ks[j]? = some k → rs[j]? = some r → ∀ u : World, Below w.heap.size w u → (Instr.lookup 71 mv (.agg k.toArray) false).run Tryz.prog u = .ok (.agg r.toArray) u) :
    Calls Tryz.prog 8 #[.pointer (some ⟨tb, 0, none⟩)] w fun e w' => ∃ v, e = .returned v ∧ Below w.heap.size w w' ∧ w'.ownsRow w.heap.size 83 23 v n (rs.flatMap id) := by
  have ltb : tb < w.heap.size := World.block_lt_of_cell? w _ c1
  rcases hown.2 with ⟨rfl, hn0⟩ | ⟨g, cap, cur, rfl, hBg, hg, hcap, hmax, hcs, hcur⟩
  · refine (list_zero tb w c1).mono ?_
    rintro e w' ⟨rfl, x, rfl⟩
    subst hn0
    have : rs = [] := List.eq_nil_of_length_eq_zero hrn
    subst this
    exact ⟨_, rfl, x.h, World.ownsRow_nil _ _ _ _⟩
  have HR := Lib.hid hruns
  have HK := Lib.hid hks
  have HRS := Lib.hid hrs
  have HC := Lib.hid hcap
  have HO := Lib.hid hown
  clear hruns hks hrs hcap hown hcur hmax hBg
  go_enter Tryz.func8, Tryz.ntmps8
  go_wp2_with fail
  go_loopg [3, 13] n (fun gk v3 v13 wr => ∃ j : Nat, j + gk = n ∧ v13 = .int .i64 j ∧ Below w.heap.size w wr ∧ wr.ownsRow w.heap.size 83 23 v3 j ((rs.take j).flatMap id))
  case atStart => exact ⟨0, by omega, rfl, Below.refl _ w, by simpa using World.ownsRow_nil w w.heap.size 83 23⟩
  case round =>
    obtain ⟨j, hj, rfl, hb, hown3⟩ := hrel
    by_cases hlt : j < n
    · obtain ⟨k, hk0⟩ : ∃ k, ks[j]? = some k := ⟨_, List.getElem?_eq_getElem (by omega)⟩
      obtain ⟨r, hr0⟩ : ∃ r, rs[j]? = some r := ⟨_, List.getElem?_eq_getElem (by omega)⟩
      have hk := HK.out k (List.mem_of_getElem? hk0)
      have hr := HRS.out r (List.mem_of_getElem? hr0)
      have hrun := HR.out j k r hk0 hr0
      have hO := HO.out
      have hcur : cur.toList.take (n * 16) = ks.flatMap id := by
        rcases hO.2 with ⟨h, _⟩ | ⟨g', cap', cur', h1, _, h3, _, _, _, h6⟩
        · cases h
        · cases h1; rw [hg] at h3; cases h3; exact h6
      have lg : g < w.heap.size := (Array.getElem?_eq_some_iff.1 hg).1
      have hrng : wr.rangeAt g (j * 16) k := range_of ((hb.block g lg).trans hg) (j * 16) (n * 16) (hcur.trans (flat_split hk0)) (by
        rw [flat_len (m := 16) _ (fun x hx => (HK.out x (List.mem_of_mem_take hx)).1), List.length_take]; congr 1; omega)
      go_wp2_with (first
        | (refine wpList_load_mid rfl 59 _ (by rfl) g (j * 16) (by rfl) k _ hrng Tryz.underlying59 rfl (by rw [hk.1]; exact size25) ?_)
        | (refine wpList_allocz rfl 59 (by rfl) Z25 16 zero25 ?_)
        | (refine wpList_storerow rfl 59 _ _ (by rfl) wr.heap.size (by rfl) Z25 k.toArray (by rfl) (heap_last wr _) (by rw [List.size_toArray, hk.1]; exact size25) (z25s.trans (by rw [List.size_toArray, hk.1])) (all_oneCell_toArray hk.one) ?_))
      have hb2 : Below w.heap.size w ((wr.alloc (.cells Z25 59)).setRow wr.heap.size k.toArray) := Below.setRow (hb.alloc hb.size _) hb.size _
      have hk5 : ((wr.alloc (.cells Z25 59)).setRow wr.heap.size k.toArray).heap[wr.heap.size]? = some (.cells k.toArray 59 (0, 0)) := setRow_heap _ _ _ _ _ _ (heap_last wr _)
      have hown2 : ((wr.alloc (.cells Z25 59)).setRow wr.heap.size k.toArray).ownsRow w.heap.size 83 23 _ j _ := (hown3.alloc (.cells Z25 59)).kept (row := some wr.heap.size) ⟨rfl, rfl, rfl, by simp, fun q _ hq => setRow_other _ _ _ _ (fun e => hq (by rw [e]))⟩ (by
        rcases hown3.2 with ⟨h, _⟩ | ⟨g', cap', cur', h1, _, h3, _⟩
        · left; rw [h]; rfl
        · right; rw [h1]; intro e; injection e with e; have := (Array.getElem?_eq_some_iff.1 h3).1; simp only at e; omega)
      have hne5 : ∀ v, wr.ownsRow w.heap.size 83 23 v j ((rs.take j).flatMap id) → some wr.heap.size ≠ v.ownBlock := fun v hv e => by have := (hv.lt _ e.symm).2; omega
      replace hne5 := hne5 _ hown3
      have hb5 : w.heap.size ≤ wr.heap.size := hb.size
      have hb6 : wr.heap.size < ((wr.alloc (.cells Z25 59)).setRow wr.heap.size k.toArray).heap.size := by simp
      generalize (wr.alloc (.cells Z25 59)).setRow wr.heap.size k.toArray = W2 at *
      generalize wr.heap.size = b5 at *
      refine wp_region_held_drew (S := (fun u => Below w.heap.size w u ∧ w.heap.size ≤ b5 ∧ b5 < u.heap.size ∧ u.heap[b5]? = some (.cells k.toArray 59 (0, 0)))) (by kernel_rfl) (⟨hb2.drew, hb5, by show b5 < W2.heap.size; exact hb6, hk5⟩) ?_
      intro hS
      refine wpAnyH_take (i := 0) (oi := { dst := some 17, op := Op.move (Operand.tmp 3), type := 64, pos := "trip.go:127", after := #[], guard := none }) (v := u3) rfl (by kernel_rfl) (by kernel_rfl) (by kernel_rfl) (fun _ _ _ h => h) (Or.inl ⟨by rfl, ?_⟩) (by assumption) ?_
      · intro z hz
        go_simp
      try simp only [Act.put, List.setIfInBounds_toArray, List.set_cons_zero, List.set_cons_succ]
      refine wpAnyH_take (i := 1) (oi := { dst := some 18, op := Op.move (Operand.tmp 0), type := 24, pos := "trip.go:127", after := #[], guard := none }) (v := .pointer (some ⟨tb, 0, none⟩)) rfl (by kernel_rfl) (by kernel_rfl) (by kernel_rfl) (fun _ _ _ h => h) (Or.inl ⟨by rfl, ?_⟩) (by assumption) ?_
      · intro z hz
        go_simp
      try simp only [Act.put, List.setIfInBounds_toArray, List.set_cons_zero, List.set_cons_succ]
      refine wpAnyH_take (i := 2) (oi := { dst := some 19, op := Op.nilCheck (Operand.tmp 18), type := 0, pos := "trip.go:127", after := #[{ on := 1, ground := Ground.data }], guard := none }) (v := .pointer (some ⟨tb, 0, none⟩)) rfl (by kernel_rfl) (by kernel_rfl) (by kernel_rfl) (fun _ _ _ h => h) (Or.inl ⟨by rfl, ?_⟩) (by assumption) ?_
      · intro z hz
        go_simp
      try simp only [Act.put, List.setIfInBounds_toArray, List.set_cons_zero, List.set_cons_succ]
      refine wpAnyH_take (i := 3) (oi := { dst := some 20, op := Op.fieldAddr 75 (Operand.tmp 19) 2, type := 0, pos := "trip.go:127", after := #[{ on := 2, ground := Ground.data }], guard := none }) (v := .pointer (some ⟨tb, 2, none⟩)) rfl (by kernel_rfl) (by kernel_rfl) (by kernel_rfl) (fun _ _ _ h => h) (Or.inl ⟨by rfl, ?_⟩) (by assumption) ?_
      · intro z hz
        go_simp
      try simp only [Act.put, List.setIfInBounds_toArray, List.set_cons_zero, List.set_cons_succ]
      refine wpAnyH_take (i := 4) (oi := { dst := some 21, op := Op.load 71 (Operand.tmp 20), type := 71, pos := "trip.go:127", after := #[{ on := 3, ground := Ground.data }], guard := none }) (v := mv) rfl (by kernel_rfl) (by kernel_rfl) (by kernel_rfl) (fun _ _ _ h => h) (Or.inl ⟨by rfl, ?_⟩) (by assumption) ?_
      · intro z hz
        have c := (hz.1.cell (p := ⟨tb, 2, none⟩) ltb).trans c2
        go_simp
      try simp only [Act.put, List.setIfInBounds_toArray, List.set_cons_zero, List.set_cons_succ]
      refine wpAnyH_take (i := 5) (oi := { dst := some 22, op := Op.load 59 (Operand.tmp 5), type := 59, pos := "trip.go:127", after := #[], guard := none }) (v := .agg k.toArray) rfl (by kernel_rfl) (by kernel_rfl) (by kernel_rfl) (fun _ _ _ h => h) (yields_loadrow (by rfl) 59 _ (by rfl) b5 (by rfl) k.toArray 59 _ (fun u hu => hu.2.2.2) Tryz.underlying59 rfl (by rw [List.size_toArray, hk.1]; exact size25)) (by assumption) ?_
      try simp only [Act.put, List.setIfInBounds_toArray, List.set_cons_zero, List.set_cons_succ]
      refine wpAnyH_take (i := 6) (oi := { dst := some 23, op := Op.lookup 71 (Operand.tmp 21) (Operand.tmp 22) false, type := 83, pos := "trip.go:127", after := #[{ on := 4, ground := Ground.data }, { on := 5, ground := Ground.data }], guard := none }) (v := .agg r.toArray) rfl (by kernel_rfl) (by kernel_rfl) (by kernel_rfl) (fun _ _ _ h => h) (yields_lookup (by rfl) 71 _ _ false (by rfl) mv (.agg k.toArray) _ (by rfl) (by rfl) (fun u hu => hrun u hu.1)) (by assumption) ?_
      try simp only [Act.put, List.setIfInBounds_toArray, List.set_cons_zero, List.set_cons_succ]
      refine wpAnyH_ready (rs := [7]) (by kernel_rfl) (by simp) ?_
      refine AllReadyH.cons (o := { dst := some 24, op := Op.buildSlice 64 1 #[(0, Operand.tmp 23)], type := 64, pos := "trip.go:127", after := #[{ on := 6, ground := Ground.data }], guard := none }) rfl (fun K hK => ?_) AllReadyH.nil
      rw [if_pos (by rfl)]
      refine wp_build1 64 83 (.tmp 23) (by rfl) r.toArray Z40 23 72 Tryz.underlying64 info40 (by rfl) (by simpa using hr.1) rfl (by omega) (by omega) ?_
      refine hK.out _ _ (⟨hS.1.alloc hS.1.size _, hS.2.1, by have := hS.2.2.1; simp <;> omega, (Below.heap_alloc _ _ _ hS.2.2.1).trans hS.2.2.2⟩) ?_
      clear hK K
      intro hS
      try simp only [Act.put, List.setIfInBounds_toArray, List.set_cons_zero, List.set_cons_succ]
      obtain ⟨i0, hi0, hi1, hi2, hi3⟩ := info_parts info40
      refine wpAnyH_ready (rs := [8]) (by kernel_rfl) (by simp) ?_
      refine AllReadyH.cons (o := { dst := some 25, op := Op.call { callee := Callee.builtin Builtin.append, args := #[Operand.tmp 17, Operand.tmp 24], argTypes := #[64, 64] }, type := 64, pos := "trip.go:127", after := #[{ on := 0, ground := Ground.data }, { on := 7, ground := Ground.data }], guard := none }) rfl (fun K hK => ?_) AllReadyH.nil
      refine step_append_lies _ rfl (.tmp 17) (.tmp 24) 64 rfl w.heap.size 83 i0 (.agg Z40) 23 72 Tryz.underlying64 hi0 hi1 hi2 hi3 rfl (by omega) u3 j _ rfl (World.ownsRow.alloc (w := W2.drew) hown2 _) ⟨W2.drew.heap.size, 0, none⟩ 1 1 r rfl (by rw [hr.1]) (by have := World.news_of_block (heap_last W2.drew (.cells r.toArray 83)); simpa using this) hr.2 (by omega) (by simp only [maxLen]; omega) (by omega) (by have := hS.1.size; exact this) _ rfl ?_
      intro g3 cap3 w3 hown3 hgrow3 hat3 hlt3
      have hS3 : Below w.heap.size w w3 := Below.grownBy hS.1 hgrow3 (fun q hq => (hown2.lt q hq).1) hS.1.size
      refine hK.out _ _ (⟨hS3, hS.2.1, Nat.lt_of_lt_of_le hS.2.2.1 hgrow3.size, (hgrow3.block b5 hS.2.2.1 (fun e => hne5 (e.symm ▸ rfl))).trans hS.2.2.2⟩) ?_
      clear hK K
      intro hS
      try simp only [Act.put, List.setIfInBounds_toArray, List.set_cons_zero, List.set_cons_succ]
      refine wpAnyH_take (i := 9) (oi := { dst := some 3, op := Op.assign (Operand.tmp 25), type := 64, pos := "trip.go:127", after := #[{ on := 8, ground := Ground.data }, { on := 8, ground := Ground.chain }, { on := 0, ground := Ground.phase }, { on := 1, ground := Ground.phase }, { on := 2, ground := Ground.phase }, { on := 3, ground := Ground.phase }, { on := 4, ground := Ground.phase }, { on := 5, ground := Ground.phase }, { on := 6, ground := Ground.phase }, { on := 7, ground := Ground.phase }, { on := 8, ground := Ground.phase }], guard := none }) (v := .slice (some ⟨g3, 0, none⟩) (j + 1) cap3) rfl (by kernel_rfl) (by kernel_rfl) (by kernel_rfl) (fun _ _ _ h => h) (Or.inl ⟨by rfl, ?_⟩) (by assumption) ?_
      · intro z hz
        go_simp
      try simp only [Act.put, List.setIfInBounds_toArray, List.set_cons_zero, List.set_cons_succ]
      refine wpAnyH_done (by kernel_rfl) ?_ _
      obtain ⟨s1, s2, s3, s4⟩ := hS
      go_wp2_with fail
      go_roundg (gk - 1)
      case measure => omega
      case rel => exact ⟨j + 1, by omega, by go_num, s1, by rw [flat_snoc hr0] at hown3; exact hown3⟩
    · have e : j = n := by omega
      subst e
      go_wp2_with fail
      go_ret
      refine ⟨_, rfl, hb, ?_⟩
      rw [List.take_of_length_le (by omega)] at hown3
      exact hown3

end Go.Proofs.YtnooghehmgbemaaGreat
