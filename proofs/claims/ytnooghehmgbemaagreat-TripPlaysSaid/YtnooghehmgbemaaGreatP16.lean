/- TripPlays: growTrip. -/
import Derived.Test.YtnooghehmgbemaaGreatP15
namespace Go.Proofs.YtnooghehmgbemaaGreat
open Go.RowKit
set_option linter.unusedVariables false
set_option linter.unusedSimpArgs false

theorem BookG.put {F : Nat → Prop} {w : World} {kb : Nat} {hv : Value} {es : List HE} {long : Nat → Value} {T : Nat → Option (Value × Nat)} {Pb : Nat → Nat → Prop} (h : BookG F w kb hv es long T Pb) {i : Nat} {e : HE} (he : es[i]? = some e) {g cap : Nat} {cur : Array Value} (hv' : hv = .slice (some ⟨g, 0, none⟩) es.length cap) (hg : w.heap[g]? = some (.cells cur 93 (0, 0)))
    (hn : es.length ≤ cap) (hm : cap ≤ maxLen) (hc : cur.size = cap * 3) (ht : cur.toList.take (es.length * 3) = (rowsG es long).flatMap id) (lg : Value) : BookG F (w.setRow g (cur.setIfInBounds (i * 3 + 1) lg)) kb hv es (fun j => if j = i then lg else long j) T Pb := by
  have hi := (List.getElem?_eq_some_iff.1 he).1
  have hgk : g ≠ kb := fun e' => by have := h.hd; rw [← e', hg] at this; injection this with this; injection this with _ this; cases this
  have hflat : (cur.setIfInBounds (i * 3 + 1) lg).toList.take (es.length * 3) = (rowsG es (fun j => if j = i then lg else long j)).flatMap id := by
    rw [Array.toList_setIfInBounds, List.take_set, ht, flat_set _ i _ (rowsG_at he) rowsG_three 1 (by omega), rowsG_set he]
  exact { h with
    hd := (setRow_other _ _ _ _ hgk.symm).trans h.hd
    row := ⟨by rw [flat_len (m := 3) _ rowsG_three, rowsG_len], .inr ⟨g, cap, _, hv', Nat.zero_le _, setRow_heap _ _ _ _ _ _ hg, hn, hm, by simpa using hc, hflat⟩⟩
    leaf := fun j x hx => (h.leaf j x hx).of (by simp) (fun b hp => setRow_other _ _ _ _ (fun e' => (h.sub j b hp).2.1 (by rw [hv', e']; rfl))) }
theorem Lies.then {F G : Nat → Prop} {w u v : World} (h : Lies F w u) (g : Lies G u v) (hG : ∀ k, G k → F k ∨ w.heap.size ≤ k) : Lies F w v :=
  ⟨g.os.trans h.os, g.tape.trans h.tape, g.output.trans h.output, Nat.le_trans h.size g.size, fun k hk hx => (g.block k (Nat.lt_of_lt_of_le hk h.size) (fun e => (hG k e).elim hx (fun e => by omega))).trans (h.block k hk hx)⟩
theorem size45' : (Tryz.prog.info? 64).map (·.size) = some 1 := size64
set_option maxRecDepth 20000 in
set_option maxHeartbeats 16000000 in
theorem grow_ok {F : Nat → Prop} {w : World} {kb : Nat} {hv : Value} {es : List HE} {Pb0 : Nat → Nat → Prop} (hF : ∀ j, F j → j < w.heap.size) (hB : BookG F w kb hv es (fun _ => .slice none 0 0) (fun _ => none) Pb0) (hn : es.length ≤ 4000000) :
    Calls Tryz.prog 65 #[.pointer (some ⟨kb, 0, none⟩)] w fun en w' => en = .returned (.tuple #[]) ∧ ∃ (F' : Nat → Prop) (long : Nat → Value) (Pb : Nat → Nat → Prop), BookG F' w' kb hv es long (fun j => some (long j, 70)) Pb ∧ Lies F w w' ∧ (∀ k, F' k → k < w'.heap.size) ∧ ∀ k, F' k → F k ∨ w.heap.size ≤ k := by
  have HF := Lib.hid hF
  obtain ⟨ao, cap, rfl⟩ : ∃ ao cap, hv = .slice ao es.length cap := by
    rcases hB.row.2 with ⟨h, h0⟩ | ⟨g, cap, cur, h, _⟩
    · rw [h0]; exact ⟨none, 0, h⟩
    · exact ⟨_, cap, h⟩
  have HB0 := Lib.hid hB
  clear hF hB
  go_enter Tryz.func65, Tryz.ntmps65
  go_wp2_with fail
  go_loopg [2] es.length (fun gk v2 wr => ∃ (i : Nat) (F' : Nat → Prop) (long : Nat → Value) (Pb : Nat → Nat → Prop), i + gk = es.length ∧ v2 = .int .i64 i ∧ BookG F' wr kb (.slice ao es.length cap) es long (fun j => if j < i then some (long j, 70) else none) Pb ∧ (∀ j, (long j).oneCell' = true) ∧ Lies F w wr ∧ (∀ k, F' k → k < wr.heap.size) ∧ ∀ k, F' k → F k ∨ w.heap.size ≤ k)
  case atStart => exact ⟨0, F, _, Pb0, by omega, rfl, HB0.out.congr (fun j _ => by rw [if_neg (by omega)]), fun _ => rfl, Lies.refl _ _, HF.out, fun k hk => .inl hk⟩
  case round =>
    obtain ⟨i, F', long, Pb, hi, rfl, BG, hl1, L, hF1, hF2⟩ := hrel
    have c18 := BG.c18
    by_cases hlt : i < es.length
    · obtain ⟨e, he⟩ : ∃ e, es[i]? = some e := ⟨_, List.getElem?_eq_getElem hlt⟩
      have HI := Lib.hid (And.intro hi hlt)
      have HEE := Lib.hid he
      have hnum := BG.num i e he
      have hlen := BG.len e (List.mem_of_getElem? he)
      obtain ⟨g, cap', cur, ev, ra, hFg, _⟩ := BG.entry he
      injection ev with ev1 _ ev2
      subst ev1 ev2
      have hbx := heap_last wr (.cells #[.slice none 0 0, .slice none 0 0, .int .i64 0] 93)
      have hone := all_oneCell_toArray (show ∀ u ∈ ([e.v, long i, .int .i64 e.num] : List Value), u.oneCell' = true from by
        intro u hu
        simp only [List.mem_cons, List.not_mem_nil, or_false] at hu
        rcases hu with rfl | rfl | rfl
        · rfl
        · exact hl1 i
        · rfl)
      have HNUM := Lib.hid hnum
      have HL1 := Lib.hid hl1
      have HF1 := Lib.hid hF1
      have HF2 := Lib.hid hF2
      have HBG := Lib.hid BG
      have HL := Lib.hid L
      clear he hl1 hF1 hF2 BG L hFg hnum
      go_wp2_with (first
        | (refine wpList_loadmid_g (by rfl) 93 _ (by rfl) g (i * 3) (by rfl) [e.v, long i, .int .i64 e.num] _ ra Tryz.underlying93 rfl size93 ?_)
        | (refine wpList_allocz rfl 93 (by rfl) #[.slice none 0 0, .slice none 0 0, .int .i64 0] 3 zero93 ?_)
        | (refine wpList_storerow rfl 93 _ _ (by rfl) wr.heap.size (by rfl) #[.slice none 0 0, .slice none 0 0, .int .i64 0] #[e.v, long i, .int .i64 e.num] (by rfl) hbx size93 rfl hone ?_)
        | (refine wpList_pause 64 _ (by rfl) ⟨wr.heap.size, 0, none⟩ (by rfl) ?_)
        | fail)
      refine Pause.mk ?_
      clear ra hbx hone c18
      have hbo := setRow_heap _ _ _ #[e.v, long i, .int .i64 e.num] _ _ (heap_last wr (.cells #[.slice none 0 0, .slice none 0 0, .int .i64 0] 93))
      have B1 : Below wr.heap.size wr ((wr.alloc (.cells #[.slice none 0 0, .slice none 0 0, .int .i64 0] 93)).setRow wr.heap.size #[e.v, long i, .int .i64 e.num]) := Below.setRow ((Below.refl _ wr).alloc (Nat.le_refl _) _) (Nat.le_refl _) _
      have hsz0 : w.heap.size ≤ wr.heap.size := HL.out.size
      have BM1 := HBG.out.of_blocks B1.size (fun j hj => B1.block j (HF1.out j hj))
      have L1 := HL.out.trans ((Lies.of_below (X := F) B1))
      have hF1' : ∀ k, F' k → k < wr.heap.size := HF1.out
      have hbs : wr.heap.size < ((wr.alloc (.cells #[.slice none 0 0, .slice none 0 0, .int .i64 0] 93)).setRow wr.heap.size #[e.v, long i, .int .i64 e.num]).heap.size := (Array.getElem?_eq_some_iff.1 hbo).1
      clear B1
      generalize (wr.alloc (.cells #[.slice none 0 0, .slice none 0 0, .int .i64 0] 93)).setRow wr.heap.size #[e.v, long i, .int .i64 e.num] = u1 at *
      have BS := BM1.start HEE.out (by rw [if_neg (by omega)])
      have HC0 : Hid (∀ z : World, z.heap[wr.heap.size]? = some (.cells #[e.v, long i, .int .i64 e.num] 93 (0, 0)) → z.cell? ⟨wr.heap.size, 0, none⟩ = some e.v) := Lib.hid (fun z h => by rw [cell_of_row z _ 0 _ _ _ h]; rfl)
      have HC2 : Hid (∀ z : World, z.heap[wr.heap.size]? = some (.cells #[e.v, long i, .int .i64 e.num] 93 (0, 0)) → z.cell? ⟨wr.heap.size, 2, none⟩ = some (.int .i64 e.num)) := Lib.hid (fun z h => by rw [cell_of_row z _ 2 _ _ _ h]; rfl)
      generalize wr.heap.size = bo at *
      have c0 : u1.cell? ⟨bo, 0, none⟩ = some (.slice (e.g.map fun b => ⟨b, 0, none⟩) e.len e.cap) := HC0.out u1 hbo
      have HBS := Lib.hid BS
      clear BM1 BS
      go_wp2_with fail
      clear c0
      go_loopg [4, 5] 70 (fun gm v4 v5 wq => ∃ (k : Nat) (F2 : Nat → Prop) (Pb2 : Nat → Nat → Prop), k + gm = 70 ∧ v5 = .int .i64 k ∧ BookG F2 wq kb (.slice (some ⟨g, 0, none⟩) es.length cap) es long (fun j => if j = i then some (v4, k) else if j < i then some (long j, 70) else none) Pb2 ∧ Lies F w wq ∧ (∀ x, F2 x → x < wq.heap.size ∧ x ≠ bo) ∧ (∀ x, F2 x → F x ∨ w.heap.size ≤ x) ∧ wq.heap[bo]? = some (.cells #[e.v, long i, .int .i64 e.num] 93 (0, 0)))
      case atStart => exact ⟨0, F', Pb, by omega, rfl, HBS.out, L1, fun x hx => ⟨by have := hF1' x hx; omega, by have := hF1' x hx; omega⟩, HF2.out, hbo⟩
      case round =>
        clear L1 hbo
        obtain ⟨k, F2, Pb2, hk, rfl, BG, L, hG1, hG2, hbo⟩ := hrel
        have HJ0 := Lib.hid hk
        have HBG2 := Lib.hid BG
        have HL2 := Lib.hid L
        have HG1 := Lib.hid hG1
        have HG2 := Lib.hid hG2
        have HBO := Lib.hid hbo
        clear BG L hG1 hG2
        by_cases hkl : k < 70
        · have c2 := HC2.out wr hbo
          clear hbo
          go_wp2_with fail
          clear c2
          refine (mark_ok e.num wr).mono ?_
          rintro en w7 ⟨rfl, x, hx⟩
          have hB7 : Below wr.heap.size wr w7 := hx ▸ x.h
          clear hx x
          have BG7 := HBG2.out.of_blocks (u := w7.alloc (.cells (MK e.num).cells.toArray 83)) (by simp; have := hB7.size; omega) (fun j hj => (Below.heap_alloc _ _ _ (Nat.lt_of_lt_of_le (HG1.out j hj).1 hB7.size)).trans (hB7.block j (HG1.out j hj).1))
          have hown := (BG7.leaf i e HEE.out)
          rw [if_pos rfl] at hown
          have HOW := Lib.hid hown.2.1
          have hml := mk_len e.num
          have hnews := World.news_of_block (heap_last w7 (.cells (MK e.num).cells.toArray 83))
          have HNEWS := Lib.hid (fun (j : Nat) (u : Value) (h : (MK e.num).cells[j]? = some u) => hnews j u (by simpa using h))
          have HBG7 := Lib.hid BG7
          obtain ⟨i0, hi0, hi1, hi2, hi3⟩ := info_parts info40
          clear BG7 hown hnews
          go_wp2_with (first
            | (refine wpList_build1 rfl 64 83 _ (by rfl) (MK e.num).cells.toArray Z40 23 72 Tryz.underlying64 info40 (by rfl) (by rw [List.size_toArray, hml]) rfl (by omega) (by omega) ?_)
            | (at_builtin; refine wpList_append_two rfl _ _ 64 (by rfl) 83 i0 (.agg Z40) 23 72 Tryz.underlying64 hi0 hi1 hi2 hi3 rfl (by decide) u4 (e.len + k) _ (by rfl) HOW.out ⟨w7.heap.size, 0, none⟩ 1 1 (MK e.num).cells (by rfl) (by rw [hml]) HNEWS.out (mk_one _) (by simp only [maxLen]; omega) (by omega) ?_)
            | fail)
          intro lg' w8 ho8 h2
          refine Pause.mk ?_
          rw [← mks_succ] at ho8
          obtain ⟨F3, Pb3, B8, L8, f1, f2⟩ := HBG7.out.step (fun x hx => by have := (HG1.out x hx).1; have := hB7.size; simp; omega) HEE.out (lg := u4) (m := k) (by rw [if_pos rfl]) ho8 h2
          have hlo : w7.heap.size < (w7.alloc (.cells (MK e.num).cells.toArray 83)).heap.size := by simp
          have h7 := hB7.size
          have hbw : bo < wr.heap.size := (Array.getElem?_eq_some_iff.1 HBO.out).1
          have LA : Lies F w (w7.alloc (.cells (MK e.num).cells.toArray 83)) := HL2.out.trans ((Lies.of_below hB7).alloc _)
          have LW := LA.then L8 (HG2.out)
          have hbo8 : w8.heap[bo]? = some (.cells #[e.v, long i, .int .i64 e.num] 93 (0, 0)) := (L8.block bo (by omega) (fun h => (HG1.out bo h).2 rfl)).trans ((Below.heap_alloc _ _ _ (by omega)).trans ((hB7.block bo hbw).trans HBO.out))
          have B9 := B8.congr (T' := fun j => if j = i then some (lg', k + 1) else if j < i then some (long j, 70) else none) (fun j _ => by
            by_cases h : j = i
            · rw [if_pos h, if_pos h]
            · rw [if_neg h, if_neg h, if_neg h])
          have g1 : ∀ x, F3 x → x < w8.heap.size ∧ x ≠ bo := fun x hx => ⟨f1 x hx, fun e' => by
            subst e'
            rcases f2 x hx with h | h
            · exact (HG1.out x h).2 rfl
            · omega⟩
          have g2 : ∀ x, F3 x → F x ∨ w.heap.size ≤ x := fun x hx => by
            rcases f2 x hx with h | h
            · exact HG2.out x h
            · exact .inr (by have := LA.size; omega)
          have H9 := Lib.hid (And.intro B9 (And.intro LW (And.intro g1 (And.intro g2 hbo8))))
          clear B8 B9 LW g1 g2 hbo8 L8 f1 f2 LA hB7 h7 ho8 h2 hlo hbw
          go_wp2_with fail
          go_roundg (gk - 1)
          case measure => have := HJ0.out; omega
          case rel => exact ⟨k + 1, F3, Pb3, by have := HJ0.out; omega, by go_num, H9.out.1, H9.out.2.1, H9.out.2.2.1, H9.out.2.2.2.1, H9.out.2.2.2.2⟩
        · obtain rfl : k = 70 := by omega
          have hlv := HBG2.out.leaf i e HEE.out
          rw [if_pos rfl] at hlv
          obtain ⟨a4, n4, c4, rfl⟩ : ∃ a4 n4 c4, u4 = .slice a4 n4 c4 := by
            rcases hlv.2.1.2 with ⟨h, _⟩ | ⟨g', cap', cur', h, _⟩
            · exact ⟨_, _, _, h⟩
            · exact ⟨_, _, _, h⟩
          obtain ⟨g', cap2, cur2, ev, _, hFg, hgb, hszg, hncap, hcm, hcs, htk⟩ := HBG2.out.entry HEE.out
          injection ev with ev1 _ ev2
          injection ev1 with ev1
          injection ev1 with ev1
          subst ev1 ev2
          have HGB := Lib.hid hgb
          have BP := HBG2.out.put HEE.out rfl hgb hncap hcm hcs htk (.slice a4 n4 c4)
          have LP : Lies F w (wr.setRow g (cur2.setIfInBounds (i * 3 + 1) (.slice a4 n4 c4))) := HL2.out.setRow (HG2.out g hFg) _
          have hs2 : (wr.setRow g (cur2.setIfInBounds (i * 3 + 1) (.slice a4 n4 c4))).heap.size = wr.heap.size := by simp
          have HS2 := Lib.hid hs2
          have c18 := HBG2.out.c18
          have HBP := Lib.hid BP
          have HLP := Lib.hid LP
          clear hlv hgb hcm hcs htk BP LP hs2 hbo hncap
          go_wp2_with (first
            | (refine wpList_store1p rfl 64 _ _ (by rfl) g (i * 3 + 1) (by rfl) (.slice a4 n4 c4) (by rfl) HGB.out (by omega) size64 rfl rfl ?_)
            | fail)
          refine Pause.mk ?_
          clear c18
          generalize wr.setRow g (cur2.setIfInBounds (i * 3 + 1) (.slice a4 n4 c4)) = w9 at *
          go_wp2_with fail
          go_roundg (es.length - (i + 1))
          case measure => have := HI.out; omega
          case rel => exact ⟨i + 1, F2, fun j => if j = i then .slice a4 n4 c4 else long j, Pb2, by have := HI.out; omega, by have := HI.out; go_num, HBP.out.congr (fun j _ => by
            by_cases h : j = i
            · rw [if_pos h, if_pos (by omega)]; dsimp only; rw [if_pos h]
            · rw [if_neg h]
              by_cases h2 : j < i
              · rw [if_pos h2, if_pos (by omega)]; dsimp only; rw [if_neg h]
              · rw [if_neg h2, if_neg (by omega)]), fun j => by
            dsimp only
            by_cases h : j = i
            · rw [if_pos h]; rfl
            · rw [if_neg h]; exact HL1.out j, HLP.out, fun x hx => by rw [HS2.out]; exact (HG1.out x hx).1, HG2.out⟩
    · obtain rfl : i = es.length := by omega
      go_wp2_with fail
      exact bodyPost_end (results_none rfl _ _ _) rfl ⟨rfl, F', long, Pb, BG.congr (fun j hj => by rw [if_pos hj]), L, hF1, hF2⟩
end Go.Proofs.YtnooghehmgbemaaGreat
