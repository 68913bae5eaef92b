/- TripPlays: keeping a list. -/
import Derived.Test.YtnooghehmgbemaaGreatP7
namespace Go.Proofs.YtnooghehmgbemaaGreat
open Go.RowKit
set_option linter.unusedVariables false
set_option linter.unusedSimpArgs false

theorem bookC_n (n m : Int) (hv : Value) : (bookC n hv).setIfInBounds 0 (.int .i64 m) = bookC m hv := rfl
theorem bookC_v (n : Int) (hv v : Value) : (bookC n hv).setIfInBounds 18 v = bookC n v := rfl
/-- a list that is to be kept -/
def HE.New (w : World) (e : HE) : Prop := (e.g = none ∧ e.len = 0 ∧ e.cap = 0) ∨ ∃ b cur, e.g = some b ∧ w.heap[b]? = some (.cells cur 83 (0, 0)) ∧ e.len ≤ e.cap ∧ e.cap ≤ maxLen ∧ cur.size = e.cap * 23
set_option maxRecDepth 20000 in
set_option maxHeartbeats 8000000 in
theorem keep_ok {F : Nat → Prop} {w : World} {kb : Nat} {es : List HE} (hA : BookAt F w kb es) (e : HE) (hN : e.num = (es.length : Int) + 1) (hlf : e.New w) (hnF : ∀ b, e.g = some b → ¬ F b) (hel : e.len ≤ 1048576) (hn : es.length ≤ 4000000) :
    Calls Tryz.prog 22 #[.pointer (some ⟨kb, 0, none⟩), e.v] w fun en w' => en = .returned (.tuple #[]) ∧ ∃ F' : Nat → Prop, BookAt F' w' kb (es ++ [e]) ∧ Lies F w w' ∧ ∀ j, F' j → F j ∨ e.g = some j ∨ w.heap.size ≤ j := by
  obtain ⟨hF, hv, hB⟩ := hA
  have c0 := hB.c0
  have zkb0 := hB.lt
  have hfr := hB.fr
  have hfo := hB.fo
  have hne := hB.row_ne
  obtain ⟨ao, hao⟩ : ∃ ao : Option Addr, ao = e.g.map fun b => ⟨b, 0, none⟩ := ⟨_, rfl⟩
  have HAO := Lib.hid hao
  unfold HE.v
  rw [← hao]
  have HD := Lib.hid hB.hd
  have HB := Lib.hid hB
  have HN := Lib.hid hN
  have HLF := Lib.hid hlf
  have HNF := Lib.hid hnF
  have HFF := Lib.hid hF
  clear hao hB hN hlf hnF hF
  go_enter Tryz.func22, Tryz.ntmps22
  go_wp2_with (first
    | (refine wpList_store1p rfl 3 _ _ (by rfl) kb 0 (by rfl) (.int .i64 (es.length + 1)) (by rfl) HD.out (by simp [bookC]) size3 rfl rfl ?_)
    | fail)
  refine Pause.mk ?_
  have h1 := setRow_heap w kb _ (bookC (es.length + 1) hv) _ _ HD.out
  have L1 : Lies F w (w.setRow kb (bookC (es.length + 1) hv)) := (Lies.refl F w).setRow (.inl hfr) _
  have hown : (w.setRow kb (bookC (es.length + 1) hv)).ownsRow 0 93 3 hv es.length ((es.map HE.cells).flatMap id) := ownsRow_of HB.out.row (fun g hg => setRow_other _ _ _ _ (fun e => hne (e ▸ hg)))
  have K1 : Hid (∀ j, kb ≠ j → (w.setRow kb (bookC (es.length + 1) hv)).heap[j]? = w.heap[j]?) := Lib.hid (fun j hj => setRow_other _ _ _ _ (Ne.symm hj))
  rw [bookC_n]
  generalize w.setRow kb (bookC (es.length + 1) hv) = w1 at *
  have zkb : kb < w1.heap.size := Nat.lt_of_lt_of_le zkb0 L1.size
  have HNE := Lib.hid hne
  clear c0
  go_wp2_with fail
  refine wp_region_held_drew (S := (fun u => Lies F w u ∧ u.cell? ⟨kb, 0, none⟩ = some (.int .i64 (es.length + 1)))) (by kernel_rfl) (⟨L1.drew, cell_of_row _ kb 0 _ _ _ h1⟩) ?_
  intro hS
  refine wpAnyH_take (i := 0) (oi := { dst := some 11, op := Op.move (Operand.tmp 0), type := 63, pos := "book.go:888", after := #[], guard := none }) (v := .pointer (some ⟨kb, 0, none⟩)) rfl (by kernel_rfl) (by kernel_rfl) (by kernel_rfl) (fun _ _ _ h => h) (Or.inl ⟨by rfl, ?_⟩) (by assumption) ?_
  · intro z hz
    go_simp
  try simp only [Act.put, List.setIfInBounds_toArray, List.set_cons_zero, List.set_cons_succ]
  refine wpAnyH_take (i := 1) (oi := { dst := some 12, op := Op.move (Operand.tmp 0), type := 63, pos := "book.go:888", after := #[], guard := none }) (v := .pointer (some ⟨kb, 0, none⟩)) rfl (by kernel_rfl) (by kernel_rfl) (by kernel_rfl) (fun _ _ _ h => h) (Or.inl ⟨by rfl, ?_⟩) (by assumption) ?_
  · intro z hz
    go_simp
  try simp only [Act.put, List.setIfInBounds_toArray, List.set_cons_zero, List.set_cons_succ]
  refine wpAnyH_take (i := 2) (oi := { dst := some 13, op := Op.nilCheck (Operand.tmp 12), type := 0, pos := "book.go:888", after := #[{ on := 1, ground := Ground.data }], guard := none }) (v := .pointer (some ⟨kb, 0, none⟩)) rfl (by kernel_rfl) (by kernel_rfl) (by kernel_rfl) (fun _ _ _ h => h) (Or.inl ⟨by rfl, ?_⟩) (by assumption) ?_
  · intro z hz
    go_simp
  try simp only [Act.put, List.setIfInBounds_toArray, List.set_cons_zero, List.set_cons_succ]
  refine wpAnyH_take (i := 3) (oi := { dst := some 14, op := Op.fieldAddr 54 (Operand.tmp 13) 18, type := 0, pos := "book.go:888", after := #[{ on := 2, ground := Ground.data }], guard := none }) (v := .pointer (some ⟨kb, 18, none⟩)) rfl (by kernel_rfl) (by kernel_rfl) (by kernel_rfl) (fun _ _ _ h => h) (Or.inl ⟨by rfl, ?_⟩) (by assumption) ?_
  · intro z hz
    go_simp
  try simp only [Act.put, List.setIfInBounds_toArray, List.set_cons_zero, List.set_cons_succ]
  refine wpAnyH_take (i := 5) (oi := { dst := some 16, op := Op.move (Operand.tmp 1), type := 64, pos := "book.go:888", after := #[], guard := none }) (v := .slice ao e.len e.cap) rfl (by kernel_rfl) (by kernel_rfl) (by kernel_rfl) (fun _ _ _ h => h) (Or.inl ⟨by rfl, ?_⟩) (by assumption) ?_
  · intro z hz
    go_simp
  try simp only [Act.put, List.setIfInBounds_toArray, List.set_cons_zero, List.set_cons_succ]
  refine wpAnyH_take (i := 6) (oi := { dst := some 17, op := Op.move (Operand.tmp 0), type := 63, pos := "book.go:888", after := #[], guard := none }) (v := .pointer (some ⟨kb, 0, none⟩)) rfl (by kernel_rfl) (by kernel_rfl) (by kernel_rfl) (fun _ _ _ h => h) (Or.inl ⟨by rfl, ?_⟩) (by assumption) ?_
  · intro z hz
    go_simp
  try simp only [Act.put, List.setIfInBounds_toArray, List.set_cons_zero, List.set_cons_succ]
  refine wpAnyH_take (i := 7) (oi := { dst := some 18, op := Op.nilCheck (Operand.tmp 17), type := 0, pos := "book.go:888", after := #[{ on := 6, ground := Ground.data }], guard := none }) (v := .pointer (some ⟨kb, 0, none⟩)) rfl (by kernel_rfl) (by kernel_rfl) (by kernel_rfl) (fun _ _ _ h => h) (Or.inl ⟨by rfl, ?_⟩) (by assumption) ?_
  · intro z hz
    go_simp
  try simp only [Act.put, List.setIfInBounds_toArray, List.set_cons_zero, List.set_cons_succ]
  refine wpAnyH_take (i := 8) (oi := { dst := some 19, op := Op.fieldAddr 54 (Operand.tmp 18) 0, type := 0, pos := "book.go:888", after := #[{ on := 7, ground := Ground.data }], guard := none }) (v := .pointer (some ⟨kb, 0, none⟩)) rfl (by kernel_rfl) (by kernel_rfl) (by kernel_rfl) (fun _ _ _ h => h) (Or.inl ⟨by rfl, ?_⟩) (by assumption) ?_
  · intro z hz
    go_simp
  try simp only [Act.put, List.setIfInBounds_toArray, List.set_cons_zero, List.set_cons_succ]
  refine wpAnyH_take (i := 9) (oi := { dst := some 20, op := Op.load 3 (Operand.tmp 19), type := 3, pos := "book.go:888", after := #[{ on := 8, ground := Ground.data }], guard := none }) (v := .int .i64 (es.length + 1)) rfl (by kernel_rfl) (by kernel_rfl) (by kernel_rfl) (fun _ _ _ h => h) (Or.inl ⟨by rfl, ?_⟩) (by assumption) ?_
  · intro z hz
    have c := hz.2
    go_simp
  try simp only [Act.put, List.setIfInBounds_toArray, List.set_cons_zero, List.set_cons_succ]
  refine wpAnyH_take (i := 10) (oi := { dst := some 21, op := Op.build 93 #[(0, Operand.tmp 16), (2, Operand.tmp 20)], type := 93, pos := "book.go:888", after := #[{ on := 5, ground := Ground.data }, { on := 9, ground := Ground.data }], guard := none }) (v := .agg #[.slice ao e.len e.cap, .slice none 0 0, .int .i64 (es.length + 1)]) rfl (by kernel_rfl) (by kernel_rfl) (by kernel_rfl) (fun _ _ _ h => h) (y_build (by rfl) 93 _ #[(0, .slice ao e.len e.cap), (2, .int .i64 (es.length + 1))] (by rfl) _ (by simp only [List.map_toArray, List.map_cons, List.map_nil]; rfl) (build93 ao e.len e.cap _)) (by assumption) ?_
  try simp only [Act.put, List.setIfInBounds_toArray, List.set_cons_zero, List.set_cons_succ]
  refine wpAnyH_ready (rs := [4, 11]) (by kernel_rfl) (by simp) ?_
  refine AllReadyH.cons (o := { dst := some 15, op := Op.load 45 (Operand.tmp 14), type := 45, pos := "book.go:888", after := #[{ on := 3, ground := Ground.data }], guard := none }) rfl (fun K hK => ?_) (AllReadyH.cons (o := { dst := some 22, op := Op.buildSlice 45 1 #[(0, Operand.tmp 21)], type := 45, pos := "book.go:888", after := #[{ on := 10, ground := Ground.data }], guard := none }) rfl (fun K hK => ?_) AllReadyH.nil)
  · rw [if_pos (by rfl)]
    refine wp_load1 45 93 _ (by rfl) ⟨kb, 18, none⟩ (by rfl) hv Tryz.underlying45 (cell_of_row w1.drew kb 18 _ _ _ (h1)) ?_
    refine hK.out _ _ (hS) ?_
    clear hK K
    intro hS
    try simp only [Act.put, List.setIfInBounds_toArray, List.set_cons_zero, List.set_cons_succ]
    refine wpAnyH_ready (rs := [11]) (by kernel_rfl) (by simp) ?_
    refine AllReadyH.cons (o := { dst := some 22, op := Op.buildSlice 45 1 #[(0, Operand.tmp 21)], type := 45, pos := "book.go:888", after := #[{ on := 10, ground := Ground.data }], guard := none }) rfl (fun K hK => ?_) AllReadyH.nil
    rw [if_pos (by rfl)]
    refine wp_build1 45 93 (.tmp 21) (by rfl) #[.slice ao e.len e.cap, .slice none 0 0, .int .i64 (es.length + 1)] #[.slice none 0 0, .slice none 0 0, .int .i64 0] 3 56 Tryz.underlying45 info93 (by rfl) rfl rfl (by omega) (by omega) ?_
    refine hK.out _ _ (⟨hS.1.alloc _, (World.cell?_of_block (Below.heap_alloc _ _ _ (Nat.lt_of_lt_of_le zkb0 hS.1.size))).trans hS.2⟩) ?_
    clear hK K
    intro hS
    try simp only [Act.put, List.setIfInBounds_toArray, List.set_cons_zero, List.set_cons_succ]
    obtain ⟨i0, hi0, hi1, hi2, hi3⟩ := info_parts info93
    refine wpAnyH_ready (rs := [12]) (by kernel_rfl) (by simp) ?_
    refine AllReadyH.cons (o := { dst := some 23, op := Op.call { callee := Callee.builtin Builtin.append, args := #[Operand.tmp 15, Operand.tmp 22], argTypes := #[45, 45] }, type := 45, pos := "book.go:888", after := #[{ on := 4, ground := Ground.data }, { on := 11, ground := Ground.data }], guard := none }) rfl (fun K hK => ?_) AllReadyH.nil
    refine step_append_lies _ rfl (.tmp 15) (.tmp 22) 45 rfl 0 93 i0 (.agg #[.slice none 0 0, .slice none 0 0, .int .i64 0]) 3 56 Tryz.underlying45 hi0 hi1 hi2 hi3 rfl (by omega) hv es.length _ rfl (World.ownsRow.alloc (w := w1.drew) hown _) ⟨w1.drew.heap.size, 0, none⟩ 1 1 [.slice ao e.len e.cap, .slice none 0 0, .int .i64 (es.length + 1)] rfl rfl (by have := World.news_of_block (heap_last w1.drew (.cells #[.slice ao e.len e.cap, .slice none 0 0, .int .i64 (es.length + 1)] 93)); simpa using this) (by intro u hu; simp only [List.mem_cons, List.not_mem_nil, or_false] at hu; rcases hu with rfl | rfl | rfl <;> rfl) (by omega) (by simp only [maxLen]; omega) (by omega) (Nat.zero_le _) _ rfl ?_
    intro g3 cap3 w3 hown4 hgrow4 hat4 hlt4
    have hL4 : Lies F w w3 := hS.1.grown hgrow4 (fun x hx => .inl (hfo x hx))
    have keep4 : ∀ j, j < w1.heap.size → Value.ownBlock hv ≠ some j → w3.heap[j]? = w1.heap[j]? := fun j hj hne => (hgrow4.block j (by show j < (w1.drew.alloc (.cells #[.slice ao e.len e.cap, .slice none 0 0, .int .i64 (es.length + 1)] 93)).heap.size; rw [World.size_alloc]; exact Nat.lt_succ_of_lt hj) (fun e => hne e.symm)).trans (Below.heap_alloc _ _ _ hj)
    have hgv : Value.ownBlock hv = some g3 ∨ w1.heap.size < g3 := hat4.imp id (fun e => by rw [e]; show w1.heap.size < (w1.drew.alloc _).heap.size; rw [World.size_alloc]; exact Nat.lt_succ_self _)
    have hk3 := (keep4 kb zkb hne).trans h1
    refine hK.out _ _ (⟨hL4, cell_of_row _ kb 0 _ _ _ hk3⟩) ?_
    clear hK K
    intro hS
    try simp only [Act.put, List.setIfInBounds_toArray, List.set_cons_zero, List.set_cons_succ]
    refine wpAnyH_take (i := 13) (oi := { dst := some 24, op := Op.nilCheck (Operand.tmp 11), type := 0, pos := "book.go:888", after := #[{ on := 0, ground := Ground.data }, { on := 0, ground := Ground.phase }, { on := 1, ground := Ground.phase }, { on := 2, ground := Ground.phase }, { on := 3, ground := Ground.phase }, { on := 4, ground := Ground.phase }, { on := 5, ground := Ground.phase }, { on := 6, ground := Ground.phase }, { on := 7, ground := Ground.phase }, { on := 8, ground := Ground.phase }, { on := 9, ground := Ground.phase }, { on := 10, ground := Ground.phase }, { on := 11, ground := Ground.phase }, { on := 12, ground := Ground.phase }], guard := none }) (v := .pointer (some ⟨kb, 0, none⟩)) rfl (by kernel_rfl) (by kernel_rfl) (by kernel_rfl) (fun _ _ _ h => h) (Or.inl ⟨by rfl, ?_⟩) (by assumption) ?_
    · intro z hz
      go_simp
    try simp only [Act.put, List.setIfInBounds_toArray, List.set_cons_zero, List.set_cons_succ]
    refine wpAnyH_take (i := 14) (oi := { dst := some 25, op := Op.fieldAddr 54 (Operand.tmp 24) 18, type := 0, pos := "book.go:888", after := #[{ on := 13, ground := Ground.data }, { on := 0, ground := Ground.phase }, { on := 1, ground := Ground.phase }, { on := 2, ground := Ground.phase }, { on := 3, ground := Ground.phase }, { on := 4, ground := Ground.phase }, { on := 5, ground := Ground.phase }, { on := 6, ground := Ground.phase }, { on := 7, ground := Ground.phase }, { on := 8, ground := Ground.phase }, { on := 9, ground := Ground.phase }, { on := 10, ground := Ground.phase }, { on := 11, ground := Ground.phase }, { on := 12, ground := Ground.phase }], guard := none }) (v := .pointer (some ⟨kb, 18, none⟩)) rfl (by kernel_rfl) (by kernel_rfl) (by kernel_rfl) (fun _ _ _ h => h) (Or.inl ⟨by rfl, ?_⟩) (by assumption) ?_
    · intro z hz
      go_simp
    try simp only [Act.put, List.setIfInBounds_toArray, List.set_cons_zero, List.set_cons_succ]
    refine wpAnyH_ready (rs := [15]) (by kernel_rfl) (by simp) ?_
    refine AllReadyH.cons (o := { dst := none, op := Op.store 45 (Operand.tmp 25) (Operand.tmp 23), type := 0, pos := "book.go:888", after := #[{ on := 14, ground := Ground.data }, { on := 12, ground := Ground.data }, { on := 12, ground := Ground.chain }, { on := 0, ground := Ground.phase }, { on := 1, ground := Ground.phase }, { on := 2, ground := Ground.phase }, { on := 3, ground := Ground.phase }, { on := 4, ground := Ground.phase }, { on := 5, ground := Ground.phase }, { on := 6, ground := Ground.phase }, { on := 7, ground := Ground.phase }, { on := 8, ground := Ground.phase }, { on := 9, ground := Ground.phase }, { on := 10, ground := Ground.phase }, { on := 11, ground := Ground.phase }, { on := 12, ground := Ground.phase }], guard := none }) rfl (fun K hK => ?_) AllReadyH.nil
    rw [if_pos (by rfl)]
    refine wp_store1 45 _ _ (by rfl) kb 18 (by rfl) (.slice (some ⟨g3, 0, none⟩) (es.length + 1) cap3) (by rfl) hk3 (by simp [bookC]) size45 rfl rfl ?_
    refine hK.out _ _ (⟨hS.1.setRow (.inl hfr) _, cell_of_row _ kb 0 _ _ _ (setRow_heap _ _ _ _ _ _ hk3)⟩) ?_
    clear hK K
    intro hS
    try simp only [Act.put, List.setIfInBounds_toArray, List.set_cons_zero, List.set_cons_succ]
    refine wpAnyH_done (by kernel_rfl) ?_ _
    have hd7 := setRow_heap w3 kb _ (bookC (es.length + 1) (.slice (some ⟨g3, 0, none⟩) (es.length + 1) cap3)) _ _ hk3
    have ng3 : kb ≠ g3 := hgv.elim (fun e e' => HNE.out (by rw [e, e'])) (fun e => by omega)
    have hown7 := World.ownsRow.kept hown4 (grown_setRow w3 kb (bookC (es.length + 1) (.slice (some ⟨g3, 0, none⟩) (es.length + 1) cap3))) (.inr (fun e => ng3 (by injection e with e; exact e.symm)))
    have L7 : Lies F w (w3.setRow kb (bookC (es.length + 1) (.slice (some ⟨g3, 0, none⟩) (es.length + 1) cap3))) := hL4.setRow (.inl hfr) _
    have hlt7 : g3 < (w3.setRow kb (bookC (es.length + 1) (.slice (some ⟨g3, 0, none⟩) (es.length + 1) cap3))).heap.size := by simpa using hlt4
    rw [show (bookC (↑es.length + 1) hv).setIfInBounds 18 (.slice (some ⟨g3, 0, none⟩) (es.length + 1) cap3) = bookC (↑es.length + 1) (.slice (some ⟨g3, 0, none⟩) (es.length + 1) cap3) from rfl]
    clear hS
    have KW : Hid (∀ j, j < w1.heap.size → kb ≠ j → hv.ownBlock ≠ some j → (w3.setRow kb (bookC (es.length + 1) (.slice (some ⟨g3, 0, none⟩) (es.length + 1) cap3))).heap[j]? = w1.heap[j]?) := Lib.hid (fun j hj h1 h2 => (setRow_other _ _ _ _ h1.symm).trans (keep4 j hj h2))
    have KEEP : Hid (∀ j, j < w.heap.size → ¬ F j → (w3.setRow kb (bookC (es.length + 1) (.slice (some ⟨g3, 0, none⟩) (es.length + 1) cap3))).heap[j]? = w.heap[j]?) := Lib.hid (fun j hj hn => L7.block j hj hn)
    generalize w3.setRow kb (bookC (es.length + 1) (.slice (some ⟨g3, 0, none⟩) (es.length + 1) cap3)) = W7 at *
    clear hown4 hgrow4 hat4 hL4 keep4
    refine bodyPost_end (results_none rfl _ _ _) rfl ?_
    have hgj : ∀ j, F j → j ≠ g3 ∨ F g3 := fun j hj => by by_cases e : j = g3; exact .inr (e ▸ hj); exact .inl e
    obtain ⟨hg3⟩ : Nonempty (F g3 ∨ w.heap.size ≤ g3) := ⟨hgv.elim (fun e => .inl (hfo g3 e)) (fun e => .inr (by have := L1.size; omega))⟩
    refine ⟨rfl, (fun j => F j ∨ e.g = some j ∨ j = g3), ⟨?_, .slice (some ⟨g3, 0, none⟩) (es.length + 1) cap3, ?_⟩, L7, ?_⟩
    · rintro j (hj | hj | rfl)
      · exact Nat.lt_of_lt_of_le (HFF.out j hj) L7.size
      · rcases HLF.out with ⟨h, _⟩ | ⟨b, cur, h, hb, _⟩
        · rw [h] at hj; cases hj
        · rw [h] at hj; injection hj with hj; subst hj
          exact Nat.lt_of_lt_of_le (Array.getElem?_eq_some_iff.1 hb).1 L7.size
      · exact hlt7
    · have LEAF : ∀ x ∈ es, x.Lf (fun j => F j ∨ e.g = some j ∨ j = g3) W7 := fun x hx => by
        rcases HB.out.leaf x hx with h | ⟨b, cur, h1', h2, h3, h4, h5, h6⟩
        · exact .inl h
        · refine .inr ⟨b, cur, h1', ?_, h3, h4, h5, .inl h6⟩
          have hbk : kb ≠ b := fun e' => by have := HB.out.hd; rw [e', h2] at this; injection this with this; injection this with _ this; cases this
          have hbh : hv.ownBlock ≠ some b := fun e' => by
            rcases HB.out.row.2 with ⟨h, _⟩ | ⟨g, cap', cur', h, _, h7, _⟩
            · rw [h] at e'; cases e'
            · rw [h] at e'; injection e' with e'; subst e'
              rw [h2] at h7; injection h7 with h7; injection h7 with _ h7; cases h7
          exact (KW.out b (Nat.lt_of_lt_of_le (HFF.out b h6) L1.size) hbk hbh).trans ((K1.out b hbk).trans h2)
      exact {
        hd := by rw [List.length_append]; exact_mod_cast hd7
        row := by
          rw [List.length_append, List.map_append, List.flatMap_append]
          have he : (HE.cells e) = [.slice ao e.len e.cap, .slice none 0 0, .int .i64 (es.length + 1)] := by unfold HE.cells HE.v; rw [HAO.out, HN.out]
          simpa [he] using hown7
        leaf := fun x hx => by
          rcases List.mem_append.1 hx with hx | hx
          · exact LEAF x hx
          · rw [List.mem_singleton.1 hx]
            rcases HLF.out with h | ⟨b, cur, h, hb, h3, h4, h5⟩
            · exact .inl h
            · exact .inr ⟨b, cur, h, (KEEP.out b (Array.getElem?_eq_some_iff.1 hb).1 (HNF.out b h)).trans hb, h3, h4, h5, .inr (.inl h)⟩
        apart := List.pairwise_append.2 ⟨HB.out.apart, by simp, fun a ha b hb x hx hx' => by
          rw [List.mem_singleton.1 hb] at hx'
          rcases HB.out.leaf a ha with ⟨h, _⟩ | ⟨b', cur, h1', _, _, _, _, h6⟩
          · rw [h] at hx; cases hx
          · rw [h1'] at hx; injection hx with hx; subst hx
            exact HNF.out _ hx' h6⟩
        num := fun i x hx => by
          rw [List.getElem?_append] at hx
          split at hx
          · exact HB.out.num i x hx
          · next hi =>
            have : i - es.length = 0 := by
              have := (List.getElem?_eq_some_iff.1 hx).1
              simp at this; omega
            rw [this] at hx
            simp at hx
            subst hx
            rw [HN.out]; omega
        len := fun x hx => by
          rcases List.mem_append.1 hx with hx | hx
          · exact HB.out.len x hx
          · rw [List.mem_singleton.1 hx]; exact hel
        fr := .inl hfr
        fo := fun g hg => .inr (.inr (by injection hg with hg; exact hg.symm)) }
    · rintro j (hj | hj | rfl)
      · exact .inl hj
      · exact .inr (.inl hj)
      · rcases hg3 with h | h
        · exact .inl h
        · exact .inr (.inr h)
  · rw [if_pos (by rfl)]
    refine wp_build1 45 93 (.tmp 21) (by rfl) #[.slice ao e.len e.cap, .slice none 0 0, .int .i64 (es.length + 1)] #[.slice none 0 0, .slice none 0 0, .int .i64 0] 3 56 Tryz.underlying45 info93 (by rfl) rfl rfl (by omega) (by omega) ?_
    refine hK.out _ _ (⟨hS.1.alloc _, (World.cell?_of_block (Below.heap_alloc _ _ _ (Nat.lt_of_lt_of_le zkb0 hS.1.size))).trans hS.2⟩) ?_
    clear hK K
    intro hS
    try simp only [Act.put, List.setIfInBounds_toArray, List.set_cons_zero, List.set_cons_succ]
    refine wpAnyH_ready (rs := [4]) (by kernel_rfl) (by simp) ?_
    refine AllReadyH.cons (o := { dst := some 15, op := Op.load 45 (Operand.tmp 14), type := 45, pos := "book.go:888", after := #[{ on := 3, ground := Ground.data }], guard := none }) rfl (fun K hK => ?_) AllReadyH.nil
    rw [if_pos (by rfl)]
    refine wp_load1 45 93 _ (by rfl) ⟨kb, 18, none⟩ (by rfl) hv Tryz.underlying45 (cell_of_row (w1.drew.alloc (.cells #[.slice ao e.len e.cap, .slice none 0 0, .int .i64 (es.length + 1)] 93)) kb 18 _ _ _ ((Below.heap_alloc _ _ _ zkb).trans h1)) ?_
    refine hK.out _ _ (hS) ?_
    clear hK K
    intro hS
    try simp only [Act.put, List.setIfInBounds_toArray, List.set_cons_zero, List.set_cons_succ]
    obtain ⟨i0, hi0, hi1, hi2, hi3⟩ := info_parts info93
    refine wpAnyH_ready (rs := [12]) (by kernel_rfl) (by simp) ?_
    refine AllReadyH.cons (o := { dst := some 23, op := Op.call { callee := Callee.builtin Builtin.append, args := #[Operand.tmp 15, Operand.tmp 22], argTypes := #[45, 45] }, type := 45, pos := "book.go:888", after := #[{ on := 4, ground := Ground.data }, { on := 11, ground := Ground.data }], guard := none }) rfl (fun K hK => ?_) AllReadyH.nil
    refine step_append_lies _ rfl (.tmp 15) (.tmp 22) 45 rfl 0 93 i0 (.agg #[.slice none 0 0, .slice none 0 0, .int .i64 0]) 3 56 Tryz.underlying45 hi0 hi1 hi2 hi3 rfl (by omega) hv es.length _ rfl (World.ownsRow.alloc (w := w1.drew) hown _) ⟨w1.drew.heap.size, 0, none⟩ 1 1 [.slice ao e.len e.cap, .slice none 0 0, .int .i64 (es.length + 1)] rfl rfl (by have := World.news_of_block (heap_last w1.drew (.cells #[.slice ao e.len e.cap, .slice none 0 0, .int .i64 (es.length + 1)] 93)); simpa using this) (by intro u hu; simp only [List.mem_cons, List.not_mem_nil, or_false] at hu; rcases hu with rfl | rfl | rfl <;> rfl) (by omega) (by simp only [maxLen]; omega) (by omega) (Nat.zero_le _) _ rfl ?_
    intro g3 cap3 w3 hown4 hgrow4 hat4 hlt4
    have hL4 : Lies F w w3 := hS.1.grown hgrow4 (fun x hx => .inl (hfo x hx))
    have keep4 : ∀ j, j < w1.heap.size → Value.ownBlock hv ≠ some j → w3.heap[j]? = w1.heap[j]? := fun j hj hne => (hgrow4.block j (by show j < (w1.drew.alloc (.cells #[.slice ao e.len e.cap, .slice none 0 0, .int .i64 (es.length + 1)] 93)).heap.size; rw [World.size_alloc]; exact Nat.lt_succ_of_lt hj) (fun e => hne e.symm)).trans (Below.heap_alloc _ _ _ hj)
    have hgv : Value.ownBlock hv = some g3 ∨ w1.heap.size < g3 := hat4.imp id (fun e => by rw [e]; show w1.heap.size < (w1.drew.alloc _).heap.size; rw [World.size_alloc]; exact Nat.lt_succ_self _)
    have hk3 := (keep4 kb zkb hne).trans h1
    refine hK.out _ _ (⟨hL4, cell_of_row _ kb 0 _ _ _ hk3⟩) ?_
    clear hK K
    intro hS
    try simp only [Act.put, List.setIfInBounds_toArray, List.set_cons_zero, List.set_cons_succ]
    refine wpAnyH_take (i := 13) (oi := { dst := some 24, op := Op.nilCheck (Operand.tmp 11), type := 0, pos := "book.go:888", after := #[{ on := 0, ground := Ground.data }, { on := 0, ground := Ground.phase }, { on := 1, ground := Ground.phase }, { on := 2, ground := Ground.phase }, { on := 3, ground := Ground.phase }, { on := 4, ground := Ground.phase }, { on := 5, ground := Ground.phase }, { on := 6, ground := Ground.phase }, { on := 7, ground := Ground.phase }, { on := 8, ground := Ground.phase }, { on := 9, ground := Ground.phase }, { on := 10, ground := Ground.phase }, { on := 11, ground := Ground.phase }, { on := 12, ground := Ground.phase }], guard := none }) (v := .pointer (some ⟨kb, 0, none⟩)) rfl (by kernel_rfl) (by kernel_rfl) (by kernel_rfl) (fun _ _ _ h => h) (Or.inl ⟨by rfl, ?_⟩) (by assumption) ?_
    · intro z hz
      go_simp
    try simp only [Act.put, List.setIfInBounds_toArray, List.set_cons_zero, List.set_cons_succ]
    refine wpAnyH_take (i := 14) (oi := { dst := some 25, op := Op.fieldAddr 54 (Operand.tmp 24) 18, type := 0, pos := "book.go:888", after := #[{ on := 13, ground := Ground.data }, { on := 0, ground := Ground.phase }, { on := 1, ground := Ground.phase }, { on := 2, ground := Ground.phase }, { on := 3, ground := Ground.phase }, { on := 4, ground := Ground.phase }, { on := 5, ground := Ground.phase }, { on := 6, ground := Ground.phase }, { on := 7, ground := Ground.phase }, { on := 8, ground := Ground.phase }, { on := 9, ground := Ground.phase }, { on := 10, ground := Ground.phase }, { on := 11, ground := Ground.phase }, { on := 12, ground := Ground.phase }], guard := none }) (v := .pointer (some ⟨kb, 18, none⟩)) rfl (by kernel_rfl) (by kernel_rfl) (by kernel_rfl) (fun _ _ _ h => h) (Or.inl ⟨by rfl, ?_⟩) (by assumption) ?_
    · intro z hz
      go_simp
    try simp only [Act.put, List.setIfInBounds_toArray, List.set_cons_zero, List.set_cons_succ]
    refine wpAnyH_ready (rs := [15]) (by kernel_rfl) (by simp) ?_
    refine AllReadyH.cons (o := { dst := none, op := Op.store 45 (Operand.tmp 25) (Operand.tmp 23), type := 0, pos := "book.go:888", after := #[{ on := 14, ground := Ground.data }, { on := 12, ground := Ground.data }, { on := 12, ground := Ground.chain }, { on := 0, ground := Ground.phase }, { on := 1, ground := Ground.phase }, { on := 2, ground := Ground.phase }, { on := 3, ground := Ground.phase }, { on := 4, ground := Ground.phase }, { on := 5, ground := Ground.phase }, { on := 6, ground := Ground.phase }, { on := 7, ground := Ground.phase }, { on := 8, ground := Ground.phase }, { on := 9, ground := Ground.phase }, { on := 10, ground := Ground.phase }, { on := 11, ground := Ground.phase }, { on := 12, ground := Ground.phase }], guard := none }) rfl (fun K hK => ?_) AllReadyH.nil
    rw [if_pos (by rfl)]
    refine wp_store1 45 _ _ (by rfl) kb 18 (by rfl) (.slice (some ⟨g3, 0, none⟩) (es.length + 1) cap3) (by rfl) hk3 (by simp [bookC]) size45 rfl rfl ?_
    refine hK.out _ _ (⟨hS.1.setRow (.inl hfr) _, cell_of_row _ kb 0 _ _ _ (setRow_heap _ _ _ _ _ _ hk3)⟩) ?_
    clear hK K
    intro hS
    try simp only [Act.put, List.setIfInBounds_toArray, List.set_cons_zero, List.set_cons_succ]
    refine wpAnyH_done (by kernel_rfl) ?_ _
    have hd7 := setRow_heap w3 kb _ (bookC (es.length + 1) (.slice (some ⟨g3, 0, none⟩) (es.length + 1) cap3)) _ _ hk3
    have ng3 : kb ≠ g3 := hgv.elim (fun e e' => HNE.out (by rw [e, e'])) (fun e => by omega)
    have hown7 := World.ownsRow.kept hown4 (grown_setRow w3 kb (bookC (es.length + 1) (.slice (some ⟨g3, 0, none⟩) (es.length + 1) cap3))) (.inr (fun e => ng3 (by injection e with e; exact e.symm)))
    have L7 : Lies F w (w3.setRow kb (bookC (es.length + 1) (.slice (some ⟨g3, 0, none⟩) (es.length + 1) cap3))) := hL4.setRow (.inl hfr) _
    have hlt7 : g3 < (w3.setRow kb (bookC (es.length + 1) (.slice (some ⟨g3, 0, none⟩) (es.length + 1) cap3))).heap.size := by simpa using hlt4
    rw [show (bookC (↑es.length + 1) hv).setIfInBounds 18 (.slice (some ⟨g3, 0, none⟩) (es.length + 1) cap3) = bookC (↑es.length + 1) (.slice (some ⟨g3, 0, none⟩) (es.length + 1) cap3) from rfl]
    clear hS
    have KW : Hid (∀ j, j < w1.heap.size → kb ≠ j → hv.ownBlock ≠ some j → (w3.setRow kb (bookC (es.length + 1) (.slice (some ⟨g3, 0, none⟩) (es.length + 1) cap3))).heap[j]? = w1.heap[j]?) := Lib.hid (fun j hj h1 h2 => (setRow_other _ _ _ _ h1.symm).trans (keep4 j hj h2))
    have KEEP : Hid (∀ j, j < w.heap.size → ¬ F j → (w3.setRow kb (bookC (es.length + 1) (.slice (some ⟨g3, 0, none⟩) (es.length + 1) cap3))).heap[j]? = w.heap[j]?) := Lib.hid (fun j hj hn => L7.block j hj hn)
    generalize w3.setRow kb (bookC (es.length + 1) (.slice (some ⟨g3, 0, none⟩) (es.length + 1) cap3)) = W7 at *
    clear hown4 hgrow4 hat4 hL4 keep4
    refine bodyPost_end (results_none rfl _ _ _) rfl ?_
    have hgj : ∀ j, F j → j ≠ g3 ∨ F g3 := fun j hj => by by_cases e : j = g3; exact .inr (e ▸ hj); exact .inl e
    obtain ⟨hg3⟩ : Nonempty (F g3 ∨ w.heap.size ≤ g3) := ⟨hgv.elim (fun e => .inl (hfo g3 e)) (fun e => .inr (by have := L1.size; omega))⟩
    refine ⟨rfl, (fun j => F j ∨ e.g = some j ∨ j = g3), ⟨?_, .slice (some ⟨g3, 0, none⟩) (es.length + 1) cap3, ?_⟩, L7, ?_⟩
    · rintro j (hj | hj | rfl)
      · exact Nat.lt_of_lt_of_le (HFF.out j hj) L7.size
      · rcases HLF.out with ⟨h, _⟩ | ⟨b, cur, h, hb, _⟩
        · rw [h] at hj; cases hj
        · rw [h] at hj; injection hj with hj; subst hj
          exact Nat.lt_of_lt_of_le (Array.getElem?_eq_some_iff.1 hb).1 L7.size
      · exact hlt7
    · have LEAF : ∀ x ∈ es, x.Lf (fun j => F j ∨ e.g = some j ∨ j = g3) W7 := fun x hx => by
        rcases HB.out.leaf x hx with h | ⟨b, cur, h1', h2, h3, h4, h5, h6⟩
        · exact .inl h
        · refine .inr ⟨b, cur, h1', ?_, h3, h4, h5, .inl h6⟩
          have hbk : kb ≠ b := fun e' => by have := HB.out.hd; rw [e', h2] at this; injection this with this; injection this with _ this; cases this
          have hbh : hv.ownBlock ≠ some b := fun e' => by
            rcases HB.out.row.2 with ⟨h, _⟩ | ⟨g, cap', cur', h, _, h7, _⟩
            · rw [h] at e'; cases e'
            · rw [h] at e'; injection e' with e'; subst e'
              rw [h2] at h7; injection h7 with h7; injection h7 with _ h7; cases h7
          exact (KW.out b (Nat.lt_of_lt_of_le (HFF.out b h6) L1.size) hbk hbh).trans ((K1.out b hbk).trans h2)
      exact {
        hd := by rw [List.length_append]; exact_mod_cast hd7
        row := by
          rw [List.length_append, List.map_append, List.flatMap_append]
          have he : (HE.cells e) = [.slice ao e.len e.cap, .slice none 0 0, .int .i64 (es.length + 1)] := by unfold HE.cells HE.v; rw [HAO.out, HN.out]
          simpa [he] using hown7
        leaf := fun x hx => by
          rcases List.mem_append.1 hx with hx | hx
          · exact LEAF x hx
          · rw [List.mem_singleton.1 hx]
            rcases HLF.out with h | ⟨b, cur, h, hb, h3, h4, h5⟩
            · exact .inl h
            · exact .inr ⟨b, cur, h, (KEEP.out b (Array.getElem?_eq_some_iff.1 hb).1 (HNF.out b h)).trans hb, h3, h4, h5, .inr (.inl h)⟩
        apart := List.pairwise_append.2 ⟨HB.out.apart, by simp, fun a ha b hb x hx hx' => by
          rw [List.mem_singleton.1 hb] at hx'
          rcases HB.out.leaf a ha with ⟨h, _⟩ | ⟨b', cur, h1', _, _, _, _, h6⟩
          · rw [h] at hx; cases hx
          · rw [h1'] at hx; injection hx with hx; subst hx
            exact HNF.out _ hx' h6⟩
        num := fun i x hx => by
          rw [List.getElem?_append] at hx
          split at hx
          · exact HB.out.num i x hx
          · next hi =>
            have : i - es.length = 0 := by
              have := (List.getElem?_eq_some_iff.1 hx).1
              simp at this; omega
            rw [this] at hx
            simp at hx
            subst hx
            rw [HN.out]; omega
        len := fun x hx => by
          rcases List.mem_append.1 hx with hx | hx
          · exact HB.out.len x hx
          · rw [List.mem_singleton.1 hx]; exact hel
        fr := .inl hfr
        fo := fun g hg => .inr (.inr (by injection hg with hg; exact hg.symm)) }
    · rintro j (hj | hj | rfl)
      · exact .inl hj
      · exact .inr (.inl hj)
      · rcases hg3 with h | h
        · exact .inl h
        · exact .inr (.inr h)
end Go.Proofs.YtnooghehmgbemaaGreat
