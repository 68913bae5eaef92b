/- TripPlays: lookTrip. -/
import Derived.Test.YtnooghehmgbemaaGreatP16
namespace Go.Proofs.YtnooghehmgbemaaGreat
open Go.RowKit
set_option linter.unusedVariables false
set_option linter.unusedSimpArgs false

theorem mks_row {w : World} {b m : Nat} {n : Int} (h : w.rangeAt b 0 (MKS n m)) {k : Nat} (hk : k < m) : w.rangeAt b (k * 23) (MK n).cells := by
  obtain ⟨d, rfl⟩ : ∃ d, m = k + 1 + d := ⟨m - k - 1, by omega⟩
  have e : MKS n (k + 1 + d) = MKS n k ++ (MK n).cells ++ MKS n d := by
    unfold MKS
    rw [← List.replicate_append_replicate, List.flatMap_append, List.replicate_succ', List.flatMap_append]
    simp
  rw [e] at h
  have := range_part h
  rwa [mks_len, Nat.zero_add] at this
set_option maxRecDepth 20000 in
set_option maxHeartbeats 16000000 in
theorem look_ok {F : Nat → Prop} {w : World} {kb : Nat} {hv : Value} {es : List HE} {long : Nat → Value} {Pb : Nat → Nat → Prop} (hF : ∀ j, F j → j < w.heap.size) (hB : BookG F w kb hv es long (fun j => some (long j, 70)) Pb) (hn : es.length ≤ 4000000) :
    Calls Tryz.prog 90 #[.pointer (some ⟨kb, 0, none⟩)] w (Gives (.bool true) w) := by
  have HF := Lib.hid hF
  obtain ⟨ao, cap, rfl⟩ : ∃ ao cap, hv = .slice ao es.length cap := by
    rcases hB.row.2 with ⟨h, h0⟩ | ⟨g, cap, cur, h, _⟩
    · rw [h0]; exact ⟨none, 0, h⟩
    · exact ⟨_, cap, h⟩
  have HB0 := Lib.hid hB
  clear hF hB
  go_enter Tryz.func90, Tryz.ntmps90
  go_wp2_with fail
  go_loopg [3] es.length (fun gk v3 wr => ∃ i : Nat, i + gk = es.length ∧ v3 = .int .i64 i ∧ Below w.heap.size w wr)
  case atStart => exact ⟨0, by omega, rfl, Below.refl _ _⟩
  case round =>
    obtain ⟨i, hi, rfl, hbw⟩ := hrel
    have BG := HB0.out.of_blocks hbw.size (fun k hk => hbw.block k (HF.out k hk))
    have c18 := BG.c18
    by_cases hlt : i < es.length
    · obtain ⟨e, he⟩ : ∃ e, es[i]? = some e := ⟨_, List.getElem?_eq_getElem hlt⟩
      have HI := Lib.hid (And.intro hi hlt)
      have HEE := Lib.hid he
      have hnum := BG.num i e he
      have N0 : 0 ≤ e.num := by omega
      have N1 : e.num ≤ 1099511627776 := by omega
      have hlen := BG.len e (List.mem_of_getElem? he)
      obtain ⟨g, cap', cur, ev, ra, hFg, _⟩ := BG.entry he
      injection ev with ev1 _ ev2
      subst ev1 ev2
      have hlv := BG.leaf i e he
      obtain ⟨lb, lc, hlong⟩ : ∃ lb lc, long i = .slice (some ⟨lb, 0, none⟩) (e.len + 70) lc := by
        rcases hlv.2.1.2 with ⟨_, h⟩ | ⟨g', cap', cur', h, _⟩
        · omega
        · exact ⟨_, _, h⟩
      rw [hlong] at ra hlv
      have HLV := Lib.hid hlv
      have hbx := heap_last wr (.cells #[.slice none 0 0, .slice none 0 0, .int .i64 0] 93)
      have hone := all_oneCell_toArray (show ∀ u ∈ ([e.v, .slice (some ⟨lb, 0, none⟩) (e.len + 70) lc, .int .i64 e.num] : List Value), u.oneCell' = true from by
        intro u hu
        simp only [List.mem_cons, List.not_mem_nil, or_false] at hu
        rcases hu with rfl | rfl | rfl <;> rfl)
      have HBW := Lib.hid hbw
      clear he hnum BG hFg hlong hlv hbw
      go_wp2_with (first
        | (refine wpList_loadmid_g (by rfl) 93 _ (by rfl) g (i * 3) (by rfl) [e.v, .slice (some ⟨lb, 0, none⟩) (e.len + 70) lc, .int .i64 e.num] _ ra Tryz.underlying93 rfl size93 ?_)
        | (refine wpList_allocz rfl 93 (by rfl) #[.slice none 0 0, .slice none 0 0, .int .i64 0] 3 zero93 ?_)
        | (refine wpList_storerow rfl 93 _ _ (by rfl) wr.heap.size (by rfl) #[.slice none 0 0, .slice none 0 0, .int .i64 0] #[e.v, .slice (some ⟨lb, 0, none⟩) (e.len + 70) lc, .int .i64 e.num] (by rfl) hbx size93 rfl hone ?_)
        | (refine wpList_pause 64 _ (by rfl) ⟨wr.heap.size, 1, none⟩ (by rfl) ?_)
        | fail)
      refine Pause.mk ?_
      clear ra hbx hone c18
      have hbo := setRow_heap _ _ _ #[e.v, .slice (some ⟨lb, 0, none⟩) (e.len + 70) lc, .int .i64 e.num] _ _ (heap_last wr (.cells #[.slice none 0 0, .slice none 0 0, .int .i64 0] 93))
      have B1 : Below wr.heap.size wr ((wr.alloc (.cells #[.slice none 0 0, .slice none 0 0, .int .i64 0] 93)).setRow wr.heap.size #[e.v, .slice (some ⟨lb, 0, none⟩) (e.len + 70) lc, .int .i64 e.num]) := Below.setRow ((Below.refl _ wr).alloc (Nat.le_refl _) _) (Nat.le_refl _) _
      have B2 := HBW.out.trans (B1.mono HBW.out.size)
      have hlr := B1.size
      -- where the marks lie
      have HRL := Lib.hid (show ∀ u : World, Below wr.heap.size wr u → u.rangeAt lb 0 (MKS e.num (e.len + 70)) ∧ lb < u.heap.size from fun u hu => by
        have ho := HLV.out.2.1
        refine ⟨fun j v hv => ?_, Nat.lt_of_lt_of_le (own_lt ho rfl).2 hu.size⟩
        have := World.ownsRow.cells ho (g := lb) rfl j v hv
        rw [Go.WideShapes.add_plain] at this
        exact (hu.cell (p := ⟨lb, 0 + j, none⟩) (own_lt ho rfl).2).trans this)
      have HRB := Lib.hid (show ∀ (u : World) (b : Nat), Below wr.heap.size wr u → e.g = some b → u.rangeAt b 0 (MKS e.num e.len) ∧ b < u.heap.size from fun u b hu hb => by
        rcases HLV.out.1 with ⟨h, _⟩ | ⟨b', h1, h2, h3⟩
        · rw [h] at hb; cases hb
        · rw [h1] at hb; injection hb with hb; subst hb
          exact ⟨range_below h3 hu h2, Nat.lt_of_lt_of_le h2 hu.size⟩)
      have HEG := Lib.hid (show e.g = none → e.len = 0 from fun h => by
        rcases HLV.out.1 with ⟨_, h'⟩ | ⟨b', h1, _⟩
        · exact h'
        · rw [h] at h1; cases h1)
      generalize (wr.alloc (.cells #[.slice none 0 0, .slice none 0 0, .int .i64 0] 93)).setRow wr.heap.size #[e.v, .slice (some ⟨lb, 0, none⟩) (e.len + 70) lc, .int .i64 e.num] = u1 at *
      obtain ⟨ea, hea⟩ : ∃ ea : Option Addr, ea = e.g.map fun b => ⟨b, 0, none⟩ := ⟨_, rfl⟩
      have hev : e.v = .slice ea e.len e.cap := by unfold HE.v; rw [hea]
      rw [hev] at hbo
      have HEA := Lib.hid hea
      clear hea hev
      have HC : Hid (∀ z : World, z.heap[wr.heap.size]? = some (.cells #[.slice ea e.len e.cap, .slice (some ⟨lb, 0, none⟩) (e.len + 70) lc, .int .i64 e.num] 93 (0, 0)) → z.cell? ⟨wr.heap.size, 0, none⟩ = some (.slice ea e.len e.cap) ∧ z.cell? ⟨wr.heap.size, 1, none⟩ = some (.slice (some ⟨lb, 0, none⟩) (e.len + 70) lc) ∧ z.cell? ⟨wr.heap.size, 2, none⟩ = some (.int .i64 e.num)) := Lib.hid (fun z h => ⟨by rw [cell_of_row z _ 0 _ _ _ h]; rfl, by rw [cell_of_row z _ 1 _ _ _ h]; rfl, by rw [cell_of_row z _ 2 _ _ _ h]; rfl⟩)
      obtain ⟨wo, hwo⟩ : ∃ wo : World, wo = wr := ⟨_, rfl⟩
      rw [← hwo] at HRL HRB B1
      have hos : wr.heap.size = wo.heap.size := by rw [hwo]
      have HOS := Lib.hid hos
      have HBWO := Lib.hid (show Below w.heap.size w wo from hwo ▸ HBW.out)
      clear hwo hos
      generalize wr.heap.size = bo at *
      have c0 := (HC.out u1 hbo).1
      have c1 := (HC.out u1 hbo).2.1
      go_wp2_with fail
      clear c0 c1
      go_loopg [5] (e.len + 70) (fun gm v5 wq => ∃ k : Nat, k + gm = e.len + 70 ∧ v5 = .int .i64 k ∧ Below wo.heap.size wo wq ∧ wq.heap[bo]? = some (.cells #[.slice ea e.len e.cap, .slice (some ⟨lb, 0, none⟩) (e.len + 70) lc, .int .i64 e.num] 93 (0, 0)))
      case atStart => exact ⟨0, by omega, rfl, by rw [← HOS.out]; exact (by rw [HOS.out]; exact B1), hbo⟩
      case round =>
        clear hbo B1 B2
        obtain ⟨k, hk, rfl, hbe, hbo⟩ := hrel
        obtain ⟨C0, C1, C2⟩ := HC.out wr hbo
        have HJ := Lib.hid hk
        by_cases hkl : k < e.len + 70
        · have HK := Lib.hid hkl
          have HBE := Lib.hid hbe
          have HBO := Lib.hid hbo
          clear hbe hbo
          go_wp2_with fail
          have hbo := HBO.out
          have LO : bo < wr.heap.size := (Array.getElem?_eq_some_iff.1 hbo).1
          have RL := mks_row (HRL.out wr HBE.out).1 hkl
          have LL := (HRL.out wr HBE.out).2
          by_cases hkb : k < e.len
          · have HKB := Lib.hid hkb
            obtain ⟨b, hgb⟩ : ∃ b, e.g = some b := by
              cases h : e.g with
              | none => have := HEG.out h; omega
              | some b => exact ⟨b, rfl⟩
            have hea := HEA.out
            rw [hgb] at hea
            simp only [Option.map_some] at hea
            subst hea
            have RB := mks_row (HRB.out wr b HBE.out hgb).1 hkb
            have LB := (HRB.out wr b HBE.out hgb).2
            have HQ := Lib.hid (show decide ((k : Int) < (e.len : Int)) = true ∧ decide (k < e.len) = true from ⟨decide_eq_true (by omega), decide_eq_true hkb⟩)
            clear hgb
            refine wp_region_wq wr.heap.size wr (Below.refl _ wr) (by kernel_rfl) (by kernel_rfl) ?_
            refine WQ.yields (v := .pointer (some ⟨bo, 1, none⟩)) (Or.inl ⟨by rfl, fun z hz => ?_⟩) ?_
            · go_simp
            try simp only [Act.put, List.setIfInBounds_toArray, List.set_cons_zero, List.set_cons_succ]
            refine WQ.yields (v := .slice (some ⟨lb, 0, none⟩) (e.len + 70) lc) (Or.inl ⟨by rfl, fun z hz => ?_⟩) ?_
            · have c := (hz.cell (p := ⟨bo, 1, none⟩) LO).trans C1; go_simp
            try simp only [Act.put, List.setIfInBounds_toArray, List.set_cons_zero, List.set_cons_succ]
            refine WQ.yields (v := .int .i64 k) (Or.inl ⟨by rfl, fun z hz => ?_⟩) ?_
            · go_simp
            try simp only [Act.put, List.setIfInBounds_toArray, List.set_cons_zero, List.set_cons_succ]
            refine WQ.yields (v := .pointer (some ⟨lb, k * 23, none⟩)) (Or.inl ⟨by rfl, fun z hz => ?_⟩) ?_
            · have hkl := HK.out; have hkb := HKB.out; go_simp
            try simp only [Act.put, List.setIfInBounds_toArray, List.set_cons_zero, List.set_cons_succ]
            refine WQ.yields (v := .agg (MK e.num).cells.toArray) (y_load (by rfl) 83 _ (by rfl) lb (k * 23) (by rfl) ((MK e.num).cells) _ 23 (fun z hz => range_below RL hz LL) Tryz.underlying83 rfl size40 (mk_len _)) ?_
            try simp only [Act.put, List.setIfInBounds_toArray, List.set_cons_zero, List.set_cons_succ]
            refine WQ.yields (v := .pointer (some ⟨bo, 2, none⟩)) (Or.inl ⟨by rfl, fun z hz => ?_⟩) ?_
            · go_simp
            try simp only [Act.put, List.setIfInBounds_toArray, List.set_cons_zero, List.set_cons_succ]
            refine WQ.yields (v := .int .i64 e.num) (Or.inl ⟨by rfl, fun z hz => ?_⟩) ?_
            · have c := (hz.cell (p := ⟨bo, 2, none⟩) LO).trans C2; go_simp
            try simp only [Act.put, List.setIfInBounds_toArray, List.set_cons_zero, List.set_cons_succ]
            refine WQ.calls (by rfl) (v := .bool true) (f := 146) (args := #[.agg (MK e.num).cells.toArray, .int .i64 e.num]) (fun z hz => by go_simp) (fun z hz => gives_below hz (Nat.le_refl _) (is_ok e.num N0 N1 z)) ?_
            try simp only [Act.put, List.setIfInBounds_toArray, List.set_cons_zero, List.set_cons_succ]
            refine WQ.yields (v := .bool false) (Or.inl ⟨by rfl, fun z hz => ?_⟩) ?_
            · go_simp
            try simp only [Act.put, List.setIfInBounds_toArray, List.set_cons_zero, List.set_cons_succ]
            refine WQ.yields (v := .bool false) (Or.inl ⟨by rfl, fun z hz => ?_⟩) ?_
            · go_simp
            try simp only [Act.put, List.setIfInBounds_toArray, List.set_cons_zero, List.set_cons_succ]
            refine WQ.yields (v := .int .i64 k) (Or.inl ⟨by rfl, fun z hz => ?_⟩) ?_
            · go_simp
            try simp only [Act.put, List.setIfInBounds_toArray, List.set_cons_zero, List.set_cons_succ]
            refine WQ.yields (v := .pointer (some ⟨bo, 0, none⟩)) (Or.inl ⟨by rfl, fun z hz => ?_⟩) ?_
            · go_simp
            try simp only [Act.put, List.setIfInBounds_toArray, List.set_cons_zero, List.set_cons_succ]
            refine WQ.yields (v := .slice (some ⟨b, 0, none⟩) e.len e.cap) (Or.inl ⟨by rfl, fun z hz => ?_⟩) ?_
            · have c := (hz.cell (p := ⟨bo, 0, none⟩) LO).trans C0; go_simp
            try simp only [Act.put, List.setIfInBounds_toArray, List.set_cons_zero, List.set_cons_succ]
            refine WQ.yields (v := .int .i64 e.len) (Or.inl ⟨by rfl, fun z hz => ?_⟩) ?_
            · go_simp
            try simp only [Act.put, List.setIfInBounds_toArray, List.set_cons_zero, List.set_cons_succ]
            refine WQ.yields (v := .bool true) (Or.inl ⟨by rfl, fun z hz => ?_⟩) ?_
            · have hq := HQ.out; have hq1 := hq.1; have hq2 := hq.2; go_simp
            try simp only [Act.put, List.setIfInBounds_toArray, List.set_cons_zero, List.set_cons_succ]
            refine WQ.yields (v := .bool true) (Or.inl ⟨by rfl, fun z hz => ?_⟩) ?_
            · go_simp
            try simp only [Act.put, List.setIfInBounds_toArray, List.set_cons_zero, List.set_cons_succ]
            refine WQ.yields (v := .pointer (some ⟨bo, 0, none⟩)) (Or.inl ⟨by rfl, fun z hz => ?_⟩) ?_
            · go_simp
            try simp only [Act.put, List.setIfInBounds_toArray, List.set_cons_zero, List.set_cons_succ]
            refine WQ.yields (v := .slice (some ⟨b, 0, none⟩) e.len e.cap) (Or.inl ⟨by rfl, fun z hz => ?_⟩) ?_
            · have c := (hz.cell (p := ⟨bo, 0, none⟩) LO).trans C0; go_simp
            try simp only [Act.put, List.setIfInBounds_toArray, List.set_cons_zero, List.set_cons_succ]
            refine WQ.yields (v := .int .i64 k) (Or.inl ⟨by rfl, fun z hz => ?_⟩) ?_
            · go_simp
            try simp only [Act.put, List.setIfInBounds_toArray, List.set_cons_zero, List.set_cons_succ]
            refine WQ.yields (v := .pointer (some ⟨b, k * 23, none⟩)) (Or.inl ⟨by rfl, fun z hz => ?_⟩) ?_
            · have hkl := HK.out; have hkb := HKB.out; go_simp
            try simp only [Act.put, List.setIfInBounds_toArray, List.set_cons_zero, List.set_cons_succ]
            refine WQ.yields (v := .agg (MK e.num).cells.toArray) (y_load (by rfl) 83 _ (by rfl) b (k * 23) (by rfl) ((MK e.num).cells) _ 23 (fun z hz => range_below RB hz LB) Tryz.underlying83 rfl size40 (mk_len _)) ?_
            try simp only [Act.put, List.setIfInBounds_toArray, List.set_cons_zero, List.set_cons_succ]
            refine WQ.yields (v := .pointer (some ⟨bo, 2, none⟩)) (Or.inl ⟨by rfl, fun z hz => ?_⟩) ?_
            · go_simp
            try simp only [Act.put, List.setIfInBounds_toArray, List.set_cons_zero, List.set_cons_succ]
            refine WQ.yields (v := .int .i64 e.num) (Or.inl ⟨by rfl, fun z hz => ?_⟩) ?_
            · have c := (hz.cell (p := ⟨bo, 2, none⟩) LO).trans C2; go_simp
            try simp only [Act.put, List.setIfInBounds_toArray, List.set_cons_zero, List.set_cons_succ]
            refine WQ.calls (by rfl) (v := .bool true) (f := 146) (args := #[.agg (MK e.num).cells.toArray, .int .i64 e.num]) (fun z hz => by go_simp) (fun z hz => gives_below hz (Nat.le_refl _) (is_ok e.num N0 N1 z)) ?_
            try simp only [Act.put, List.setIfInBounds_toArray, List.set_cons_zero, List.set_cons_succ]
            refine WQ.yields (v := .bool false) (Or.inl ⟨by rfl, fun z hz => ?_⟩) ?_
            · go_simp
            try simp only [Act.put, List.setIfInBounds_toArray, List.set_cons_zero, List.set_cons_succ]
            refine WQ.yields (v := .bool false) (Or.inl ⟨by rfl, fun z hz => ?_⟩) ?_
            · go_simp
            try simp only [Act.put, List.setIfInBounds_toArray, List.set_cons_zero, List.set_cons_succ]
            refine WQ.yields (v := .bool false) (Or.inl ⟨by rfl, fun z hz => ?_⟩) ?_
            · go_simp
            try simp only [Act.put, List.setIfInBounds_toArray, List.set_cons_zero, List.set_cons_succ]
            refine WQ.nil ?_
            intro z hz
            have hb5 := HBE.out.trans (hz.mono HBE.out.size)
            have hbo5 := (hz.block bo LO).trans hbo
            clear C0 C1 C2 RL LL LO hbo hz HBE RB LB
            go_wp2_with fail
            go_roundg (gk - 1)
            case measure => have := HJ.out; omega
            case rel => exact ⟨k + 1, by have := HJ.out; omega, by have := HJ.out; go_num, hb5, hbo5⟩
          · have HQ := Lib.hid (show decide ((k : Int) < (e.len : Int)) = false ∧ decide (k < e.len) = false from ⟨decide_eq_false (by omega), decide_eq_false hkb⟩)
            refine wp_region_wq wr.heap.size wr (Below.refl _ wr) (by kernel_rfl) (by kernel_rfl) ?_
            refine WQ.yields (v := .pointer (some ⟨bo, 1, none⟩)) (Or.inl ⟨by rfl, fun z hz => ?_⟩) ?_
            · go_simp
            try simp only [Act.put, List.setIfInBounds_toArray, List.set_cons_zero, List.set_cons_succ]
            refine WQ.yields (v := .slice (some ⟨lb, 0, none⟩) (e.len + 70) lc) (Or.inl ⟨by rfl, fun z hz => ?_⟩) ?_
            · have c := (hz.cell (p := ⟨bo, 1, none⟩) LO).trans C1; go_simp
            try simp only [Act.put, List.setIfInBounds_toArray, List.set_cons_zero, List.set_cons_succ]
            refine WQ.yields (v := .int .i64 k) (Or.inl ⟨by rfl, fun z hz => ?_⟩) ?_
            · go_simp
            try simp only [Act.put, List.setIfInBounds_toArray, List.set_cons_zero, List.set_cons_succ]
            refine WQ.yields (v := .pointer (some ⟨lb, k * 23, none⟩)) (Or.inl ⟨by rfl, fun z hz => ?_⟩) ?_
            · have hkl := HK.out; go_simp
            try simp only [Act.put, List.setIfInBounds_toArray, List.set_cons_zero, List.set_cons_succ]
            refine WQ.yields (v := .agg (MK e.num).cells.toArray) (y_load (by rfl) 83 _ (by rfl) lb (k * 23) (by rfl) ((MK e.num).cells) _ 23 (fun z hz => range_below RL hz LL) Tryz.underlying83 rfl size40 (mk_len _)) ?_
            try simp only [Act.put, List.setIfInBounds_toArray, List.set_cons_zero, List.set_cons_succ]
            refine WQ.yields (v := .pointer (some ⟨bo, 2, none⟩)) (Or.inl ⟨by rfl, fun z hz => ?_⟩) ?_
            · go_simp
            try simp only [Act.put, List.setIfInBounds_toArray, List.set_cons_zero, List.set_cons_succ]
            refine WQ.yields (v := .int .i64 e.num) (Or.inl ⟨by rfl, fun z hz => ?_⟩) ?_
            · have c := (hz.cell (p := ⟨bo, 2, none⟩) LO).trans C2; go_simp
            try simp only [Act.put, List.setIfInBounds_toArray, List.set_cons_zero, List.set_cons_succ]
            refine WQ.calls (by rfl) (v := .bool true) (f := 146) (args := #[.agg (MK e.num).cells.toArray, .int .i64 e.num]) (fun z hz => by go_simp) (fun z hz => gives_below hz (Nat.le_refl _) (is_ok e.num N0 N1 z)) ?_
            try simp only [Act.put, List.setIfInBounds_toArray, List.set_cons_zero, List.set_cons_succ]
            refine WQ.yields (v := .bool false) (Or.inl ⟨by rfl, fun z hz => ?_⟩) ?_
            · go_simp
            try simp only [Act.put, List.setIfInBounds_toArray, List.set_cons_zero, List.set_cons_succ]
            refine WQ.yields (v := .bool false) (Or.inl ⟨by rfl, fun z hz => ?_⟩) ?_
            · go_simp
            try simp only [Act.put, List.setIfInBounds_toArray, List.set_cons_zero, List.set_cons_succ]
            refine WQ.yields (v := .int .i64 k) (Or.inl ⟨by rfl, fun z hz => ?_⟩) ?_
            · go_simp
            try simp only [Act.put, List.setIfInBounds_toArray, List.set_cons_zero, List.set_cons_succ]
            refine WQ.yields (v := .pointer (some ⟨bo, 0, none⟩)) (Or.inl ⟨by rfl, fun z hz => ?_⟩) ?_
            · go_simp
            try simp only [Act.put, List.setIfInBounds_toArray, List.set_cons_zero, List.set_cons_succ]
            refine WQ.yields (v := .slice ea e.len e.cap) (Or.inl ⟨by rfl, fun z hz => ?_⟩) ?_
            · have c := (hz.cell (p := ⟨bo, 0, none⟩) LO).trans C0; go_simp
            try simp only [Act.put, List.setIfInBounds_toArray, List.set_cons_zero, List.set_cons_succ]
            refine WQ.yields (v := .int .i64 e.len) (Or.inl ⟨by rfl, fun z hz => ?_⟩) ?_
            · go_simp
            try simp only [Act.put, List.setIfInBounds_toArray, List.set_cons_zero, List.set_cons_succ]
            refine WQ.yields (v := .bool false) (Or.inl ⟨by rfl, fun z hz => ?_⟩) ?_
            · have hq := HQ.out; have hq1 := hq.1; have hq2 := hq.2; go_simp
            try simp only [Act.put, List.setIfInBounds_toArray, List.set_cons_zero, List.set_cons_succ]
            refine WQ.yields (v := .bool false) (Or.inl ⟨by rfl, fun z hz => ?_⟩) ?_
            · go_simp
            try simp only [Act.put, List.setIfInBounds_toArray, List.set_cons_zero, List.set_cons_succ]
            refine WQ.skip (by rfl) ?_
            try simp only [Act.put, List.setIfInBounds_toArray, List.set_cons_zero, List.set_cons_succ]
            refine WQ.skip (by rfl) ?_
            try simp only [Act.put, List.setIfInBounds_toArray, List.set_cons_zero, List.set_cons_succ]
            refine WQ.skip (by rfl) ?_
            try simp only [Act.put, List.setIfInBounds_toArray, List.set_cons_zero, List.set_cons_succ]
            refine WQ.skip (by rfl) ?_
            try simp only [Act.put, List.setIfInBounds_toArray, List.set_cons_zero, List.set_cons_succ]
            refine WQ.skip (by rfl) ?_
            try simp only [Act.put, List.setIfInBounds_toArray, List.set_cons_zero, List.set_cons_succ]
            refine WQ.skip (by rfl) ?_
            try simp only [Act.put, List.setIfInBounds_toArray, List.set_cons_zero, List.set_cons_succ]
            refine WQ.skip (by rfl) ?_
            try simp only [Act.put, List.setIfInBounds_toArray, List.set_cons_zero, List.set_cons_succ]
            refine WQ.skip (by rfl) ?_
            try simp only [Act.put, List.setIfInBounds_toArray, List.set_cons_zero, List.set_cons_succ]
            refine WQ.skip (by rfl) ?_
            try simp only [Act.put, List.setIfInBounds_toArray, List.set_cons_zero, List.set_cons_succ]
            refine WQ.yields (v := .bool false) (Or.inl ⟨by rfl, fun z hz => ?_⟩) ?_
            · go_simp
            try simp only [Act.put, List.setIfInBounds_toArray, List.set_cons_zero, List.set_cons_succ]
            refine WQ.yields (v := .bool false) (Or.inl ⟨by rfl, fun z hz => ?_⟩) ?_
            · go_simp
            try simp only [Act.put, List.setIfInBounds_toArray, List.set_cons_zero, List.set_cons_succ]
            refine WQ.nil ?_
            intro z hz
            have hb5 := HBE.out.trans (hz.mono HBE.out.size)
            have hbo5 := (hz.block bo LO).trans hbo
            clear C0 C1 C2 RL LL LO hbo hz HBE
            go_wp2_with fail
            go_roundg (gk - 1)
            case measure => have := HJ.out; omega
            case rel => exact ⟨k + 1, by have := HJ.out; omega, by have := HJ.out; go_num, hb5, hbo5⟩
        · obtain rfl : k = e.len + 70 := by omega
          clear C0 C2
          go_wp2_with fail
          go_roundg (es.length - (i + 1))
          case measure => have := HI.out; omega
          case rel => exact ⟨i + 1, by have := HI.out; omega, by have := HI.out; go_num, HBWO.out.trans (hbe.mono HBWO.out.size)⟩
    · obtain rfl : i = es.length := by omega
      go_wp2_with fail
      go_ret
      exact gives_of_eq rfl hbw
end Go.Proofs.YtnooghehmgbemaaGreat
