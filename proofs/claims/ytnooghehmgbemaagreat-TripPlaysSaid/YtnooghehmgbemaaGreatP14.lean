/- TripPlays: fillTrip. -/
import Derived.Test.YtnooghehmgbemaaGreatP13
namespace Go.Proofs.YtnooghehmgbemaaGreat
open Go.RowKit
set_option linter.unusedVariables false
set_option linter.unusedSimpArgs false

theorem he_one (e : HE) : ∀ u ∈ e.cells, u.oneCell' = true := fun u hu => by
  simp only [HE.cells, HE.v, List.mem_cons, List.not_mem_nil, or_false] at hu
  rcases hu with rfl | rfl | rfl <;> rfl
def LenAt (es : List HE) (j : Nat) : Nat := (es[j]?.map HE.len).getD 0
theorem lenAt {es : List HE} {j : Nat} {e : HE} (h : es[j]? = some e) : LenAt es j = e.len := by unfold LenAt; rw [h]; rfl
set_option maxRecDepth 20000 in
set_option maxHeartbeats 16000000 in
theorem fill_ok {F : Nat → Prop} {w : World} {kb : Nat} {hv : Value} {es : List HE} (hF : ∀ j, F j → j < w.heap.size) (hB : BookM F w kb hv es (fun _ => 0)) (hn : es.length ≤ 4000000) :
    Calls Tryz.prog 40 #[.pointer (some ⟨kb, 0, none⟩)] w fun en w' => en = .returned (.tuple #[]) ∧ BookM F w' kb hv es (LenAt es) ∧ Lies F w w' := by
  have HF := Lib.hid hF
  obtain ⟨ao, cap, rfl⟩ : ∃ ao cap, hv = .slice ao es.length cap := by
    rcases hB.row.2 with ⟨h, h0⟩ | ⟨g, cap, cur, h, _⟩
    · rw [h0]; exact ⟨none, 0, h⟩
    · exact ⟨_, cap, h⟩
  have HB0 := Lib.hid hB
  clear hF hB
  go_enter Tryz.func40, Tryz.ntmps40
  go_wp2_with fail
  go_loopg [2] es.length (fun gk v2 wr => ∃ i : Nat, i + gk = es.length ∧ v2 = .int .i64 i ∧ BookM F wr kb (.slice ao es.length cap) es (fun j => if j < i then LenAt es j else 0) ∧ Lies F w wr)
  case atStart => exact ⟨0, by omega, rfl, HB0.out.congr (fun j _ => by rw [if_neg (by omega)]), Lies.refl _ _⟩
  case round =>
    obtain ⟨i, hi, rfl, BM, L⟩ := hrel
    have c18 := BM.c18
    by_cases hlt : i < es.length
    · obtain ⟨e, he⟩ : ∃ e, es[i]? = some e := ⟨_, List.getElem?_eq_getElem hlt⟩
      have HI := Lib.hid (And.intro hi hlt)
      have HEE := Lib.hid he
      have hnum := BM.num i e he
      have hlen := BM.len e (List.mem_of_getElem? he)
      obtain ⟨g, cap', ev, ra, hFg⟩ := BM.entry he
      injection ev with ev1 _ ev2
      subst ev1 ev2
      have hbx := heap_last wr (.cells #[.slice none 0 0, .slice none 0 0, .int .i64 0] 93)
      have hone := all_oneCell_toArray (he_one e)
      clear he
      go_wp2_with (first
        | (refine wpList_loadmid_g (by rfl) 93 _ (by rfl) g (i * 3) (by rfl) e.cells _ ra Tryz.underlying93 rfl size93 ?_)
        | (refine wpList_allocz rfl 93 (by rfl) #[.slice none 0 0, .slice none 0 0, .int .i64 0] 3 zero93 ?_)
        | (refine wpList_storerow rfl 93 _ _ (by rfl) wr.heap.size (by rfl) #[.slice none 0 0, .slice none 0 0, .int .i64 0] e.cells.toArray (by rfl) hbx size93 rfl hone ?_)
        | fail)
      clear ra hbx hone c18
      have hbo := setRow_heap _ _ _ e.cells.toArray _ _ (heap_last wr (.cells #[.slice none 0 0, .slice none 0 0, .int .i64 0] 93))
      have B1 : Below wr.heap.size wr ((wr.alloc (.cells #[.slice none 0 0, .slice none 0 0, .int .i64 0] 93)).setRow wr.heap.size e.cells.toArray) := Below.setRow ((Below.refl _ wr).alloc (Nat.le_refl _) _) (Nat.le_refl _) _
      have lbo0 : wr.heap.size < ((wr.alloc (.cells #[.slice none 0 0, .slice none 0 0, .int .i64 0] 93)).setRow wr.heap.size e.cells.toArray).heap.size := (Array.getElem?_eq_some_iff.1 hbo).1
      have hsz0 : w.heap.size ≤ wr.heap.size := L.size
      have HFL0 := Lib.hid (fun j (hj : F j) => Nat.lt_of_lt_of_le (HF.out j hj) hsz0)
      have BM1 := BM.of_blocks (fun j hj => B1.block j (HFL0.out j hj))
      have L1 := L.trans ((Lies.of_below (X := F) B1))
      clear BM L B1
      generalize (wr.alloc (.cells #[.slice none 0 0, .slice none 0 0, .int .i64 0] 93)).setRow wr.heap.size e.cells.toArray = u1 at *
      have HC0 : Hid (∀ z : World, z.heap[wr.heap.size]? = some (.cells e.cells.toArray 93 (0, 0)) → z.cell? ⟨wr.heap.size, 0, none⟩ = some e.v) := Lib.hid (fun z h => by rw [cell_of_row z _ 0 _ _ _ h]; rfl)
      have HC2 : Hid (∀ z : World, z.heap[wr.heap.size]? = some (.cells e.cells.toArray 93 (0, 0)) → z.cell? ⟨wr.heap.size, 2, none⟩ = some (.int .i64 e.num)) := Lib.hid (fun z h => by rw [cell_of_row z _ 2 _ _ _ h]; rfl)
      generalize wr.heap.size = bo at *
      unfold HE.v at HC0
      go_loopg [4] e.len (fun gm v4 wq => ∃ k : Nat, k + gm = e.len ∧ v4 = .int .i64 k ∧ BookM F wq kb (.slice (some ⟨g, 0, none⟩) es.length cap) es (fun j => if j = i then k else if j < i then LenAt es j else 0) ∧ Lies F w wq ∧ wq.heap[bo]? = some (.cells e.cells.toArray 93 (0, 0)))
      case atStart => exact ⟨0, by omega, rfl, BM1.congr (fun j _ => by by_cases h : j = i; rw [if_pos h, if_neg (by omega)]; rw [if_neg h]), L1, hbo⟩
      case round =>
        clear BM1 L1 hbo
        obtain ⟨k, hk, rfl, BM, L, hbo⟩ := hrel
        have c0 := HC0.out wr hbo
        by_cases hkl : k < e.len
        · obtain ⟨b, hgb⟩ : ∃ b, e.g = some b := by
            rcases BM.leaf i e HEE.out with ⟨_, h, _⟩ | ⟨b, _, h, _⟩
            · omega
            · exact ⟨b, h⟩
          have HG := Lib.hid hgb
          rw [hgb] at HC0 c0
          have hFb : F b := by
            rcases BM.leaf i e HEE.out with ⟨h, _⟩ | ⟨b', _, h, _, _, _, _, h', _⟩
            · rw [hgb] at h; cases h
            · rw [hgb] at h; injection h with h; rw [h]; exact h'
          have hbbo : bo ≠ b := fun e' => by have := HF.out b hFb; omega
          have lbo : bo < wr.heap.size := (Array.getElem?_eq_some_iff.1 hbo).1
          have HFL := Lib.hid (fun j (hj : F j) => Nat.lt_of_lt_of_le (HF.out j hj) L.size)
          have HJ := Lib.hid (And.intro hk hkl)
          have HBM := Lib.hid BM
          have HL := Lib.hid L
          have HBO := Lib.hid hbo
          clear hgb BM L hbo
          go_wp2_with fail
          have BM := HBM.out
          have hbo := HBO.out
          refine wp_region_held_drew (S := (fun u => Lies (fun j => j = b) wr u ∧ u.heap[bo]? = some (.cells e.cells.toArray 93 (0, 0)))) (by kernel_rfl) (⟨(Lies.refl _ wr).drew, hbo⟩) ?_
          intro hS
          refine wpAnyH_take (i := 0) (oi := { dst := some 28, op := Op.fieldAddr 93 (Operand.tmp 3) 0, type := 0, pos := "book.go:895", after := #[], guard := none }) (v := .pointer (some ⟨bo, 0, none⟩)) rfl (by kernel_rfl) (by kernel_rfl) (by kernel_rfl) (fun _ _ _ h => h) (Or.inl ⟨by rfl, ?_⟩) (by assumption) ?_
          · intro z hz
            go_simp
          try simp only [Act.put, List.setIfInBounds_toArray, List.set_cons_zero, List.set_cons_succ]
          refine wpAnyH_take (i := 1) (oi := { dst := some 29, op := Op.load 64 (Operand.tmp 28), type := 64, pos := "book.go:895", after := #[{ on := 0, ground := Ground.data }], guard := none }) (v := .slice (some ⟨b, 0, none⟩) e.len e.cap) rfl (by kernel_rfl) (by kernel_rfl) (by kernel_rfl) (fun _ _ _ h => h) (Or.inl ⟨by rfl, ?_⟩) (by assumption) ?_
          · intro z hz
            have c := HC0.out z hz.2
            go_simp
          try simp only [Act.put, List.setIfInBounds_toArray, List.set_cons_zero, List.set_cons_succ]
          refine wpAnyH_take (i := 2) (oi := { dst := some 30, op := Op.move (Operand.tmp 4), type := 3, pos := "book.go:895", after := #[], guard := none }) (v := .int .i64 k) rfl (by kernel_rfl) (by kernel_rfl) (by kernel_rfl) (fun _ _ _ h => h) (Or.inl ⟨by rfl, ?_⟩) (by assumption) ?_
          · intro z hz
            go_simp
          try simp only [Act.put, List.setIfInBounds_toArray, List.set_cons_zero, List.set_cons_succ]
          refine wpAnyH_take (i := 3) (oi := { dst := some 31, op := Op.fieldAddr 93 (Operand.tmp 3) 2, type := 0, pos := "book.go:895", after := #[], guard := none }) (v := .pointer (some ⟨bo, 2, none⟩)) rfl (by kernel_rfl) (by kernel_rfl) (by kernel_rfl) (fun _ _ _ h => h) (Or.inl ⟨by rfl, ?_⟩) (by assumption) ?_
          · intro z hz
            go_simp
          try simp only [Act.put, List.setIfInBounds_toArray, List.set_cons_zero, List.set_cons_succ]
          refine wpAnyH_take (i := 4) (oi := { dst := some 32, op := Op.load 3 (Operand.tmp 31), type := 3, pos := "book.go:895", after := #[{ on := 3, ground := Ground.data }], guard := none }) (v := .int .i64 e.num) rfl (by kernel_rfl) (by kernel_rfl) (by kernel_rfl) (fun _ _ _ h => h) (Or.inl ⟨by rfl, ?_⟩) (by assumption) ?_
          · intro z hz
            have c := HC2.out z hz.2
            go_simp
          try simp only [Act.put, List.setIfInBounds_toArray, List.set_cons_zero, List.set_cons_succ]
          refine wpAnyH_ready (rs := [5]) (by kernel_rfl) (by simp) ?_
          refine AllReadyH.cons (o := { dst := some 33, op := Op.call { callee := Callee.value (Operand.func 121), args := #[Operand.tmp 32], argTypes := #[3] }, type := 83, pos := "book.go:895", after := #[{ on := 4, ground := Ground.data }], guard := none }) rfl (fun K hK => ?_) AllReadyH.nil
          rw [if_pos (by rfl)]
          refine wp_callv (f := 121) (args := #[.int .i64 e.num]) (v := .agg (MK e.num).cells.toArray) (by go_simp) ((mark_ok e.num wr.drew).mono (fun _ _ ⟨h1, x, hx⟩ => ⟨h1, hx ▸ x.h⟩)) ?_
          intro w7 hB7
          have L7 : Lies (fun j => j = b) wr w7 := (Lies.refl _ wr).drew.trans (Lies.of_below hB7)
          have k7 : ∀ j, j < wr.heap.size → w7.heap[j]? = wr.heap[j]? := fun j hj => hB7.block j hj
          refine hK.out _ _ (⟨L7, (k7 bo lbo).trans hbo⟩) ?_
          clear hK K hS
          intro hS
          try simp only [Act.put, List.setIfInBounds_toArray, List.set_cons_zero, List.set_cons_succ]
          refine wpAnyH_take (i := 6) (oi := { dst := some 34, op := Op.indexAddr 64 (Operand.tmp 29) (Operand.tmp 30), type := 0, pos := "book.go:895", after := #[{ on := 1, ground := Ground.data }, { on := 2, ground := Ground.data }, { on := 0, ground := Ground.phase }, { on := 1, ground := Ground.phase }, { on := 2, ground := Ground.phase }, { on := 3, ground := Ground.phase }, { on := 4, ground := Ground.phase }, { on := 5, ground := Ground.phase }], guard := none }) (v := .pointer (some ⟨b, k * 23, none⟩)) rfl (by kernel_rfl) (by kernel_rfl) (by kernel_rfl) (fun _ _ _ h => h) (Or.inl ⟨by rfl, ?_⟩) (by assumption) ?_
          · intro z hz
            have hkl := HJ.out.2
            go_simp
          try simp only [Act.put, List.setIfInBounds_toArray, List.set_cons_zero, List.set_cons_succ]
          obtain ⟨b7, cur7, eb7, hb7, hsz7, _, B7⟩ := (BM.of_blocks (u := w7) (fun j hj => k7 j (HFL.out j hj))).store HEE.out (by rw [if_pos rfl]; exact HJ.out.2)
          rw [HG.out] at eb7
          injection eb7 with eb7
          subst eb7
          rw [if_pos rfl] at hsz7 B7
          refine wpAnyH_ready (rs := [7]) (by kernel_rfl) (by simp) ?_
          refine AllReadyH.cons (o := { dst := none, op := Op.store 83 (Operand.tmp 34) (Operand.tmp 33), type := 0, pos := "book.go:895", after := #[{ on := 6, ground := Ground.data }, { on := 5, ground := Ground.data }, { on := 5, ground := Ground.chain }, { on := 0, ground := Ground.phase }, { on := 1, ground := Ground.phase }, { on := 2, ground := Ground.phase }, { on := 3, ground := Ground.phase }, { on := 4, ground := Ground.phase }, { on := 5, ground := Ground.phase }], guard := none }) rfl (fun K hK => ?_) AllReadyH.nil
          rw [if_pos (by rfl)]
          refine wp_storemid 83 _ _ (by rfl) b (k * 23) (by rfl) (MK e.num).cells (by rfl) hb7 size40 (mk_len _) hsz7 (mk_one _) ?_
          refine hK.out _ _ (⟨hS.1.setRow (.inl rfl) _, (setRow_other _ _ _ _ hbbo).trans hS.2⟩) ?_
          clear hK K hS
          intro hS
          try simp only [Act.put, List.setIfInBounds_toArray, List.set_cons_zero, List.set_cons_succ]
          refine wpAnyH_done (by kernel_rfl) ?_ _
          have L8 : Lies F w (w7.setRow b (cur7.toList.take (k * 23) ++ (MK e.num).cells ++ cur7.toList.drop (k * 23 + 23)).toArray) := (HL.out.trans (L7.mono (fun j _ e' => e' ▸ hFb))).setRow (.inl hFb) _
          have hbo8 := hS.2
          clear c0 hS L7 k7 hB7 hb7 hsz7 BM hbo
          generalize w7.setRow b (cur7.toList.take (k * 23) ++ (MK e.num).cells ++ cur7.toList.drop (k * 23 + 23)).toArray = w8 at *
          have B8 := B7.congr (M' := fun j => if j = i then k + 1 else if j < i then LenAt es j else 0) (fun j _ => by
            by_cases h : j = i
            · rw [if_pos h, if_pos h]
            · rw [if_neg h, if_neg h, if_neg h])
          have HB8 := Lib.hid B8
          have HBO8 := Lib.hid hbo8
          clear B7 B8 hbo8
          go_wp2_with fail
          go_roundg (gk - 1)
          case measure => have := HJ.out; omega
          case rel => exact ⟨k + 1, by have := HJ.out; omega, by have := HJ.out; go_num, HB8.out, L8, HBO8.out⟩
        · obtain rfl : k = e.len := by omega
          go_wp2_with fail
          go_roundg (es.length - (i + 1))
          case measure => have := HI.out; omega
          case rel => exact ⟨i + 1, by have := HI.out; omega, by have := HI.out; go_num, BM.congr (fun j _ => by
            by_cases h : j = i
            · rw [if_pos h, if_pos (by omega), h, lenAt HEE.out]
            · rw [if_neg h]
              by_cases h2 : j < i
              · rw [if_pos h2, if_pos (by omega)]
              · rw [if_neg h2, if_neg (by omega)]), L⟩
    · obtain rfl : i = es.length := by omega
      go_wp2_with fail
      exact bodyPost_end (results_none rfl _ _ _) rfl ⟨rfl, BM.congr (fun j hj => by rw [if_pos hj]), L⟩
end Go.Proofs.YtnooghehmgbemaaGreat
