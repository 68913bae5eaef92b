/- Top: Best, walked: the best matching with the least prices. -/
import Derived.Test.YtikjelkehcnjmaaW13
namespace Go.Proofs.Ytikjelkehcnjmaa
open Go.RowKit
set_option linter.unusedVariables false
set_option linter.unusedSimpArgs false
theorem three_one (a b c : Value) (ha : a.oneCell' = true) (hb : b.oneCell' = true) (hc : c.oneCell' = true) : (#[a, b, c] : Array Value).all (·.oneCell') = true := by
  rw [List.all_toArray]; simp [ha, hb, hc]
theorem pair_one (a b : Int) : (#[.int .i64 a, .int .i64 b] : Array Value).all (·.oneCell') = true := by
  rw [List.all_toArray]; rfl
theorem fill_pair (a b : Int) : Instr.fill (fun i => some (i * 2, 2)) ((Array.range (1 * 2)).map ((Value.agg #[.int .i64 0, .int .i64 0]).cells[· % (Value.agg #[.int .i64 0, .int .i64 0]).cells.size]!)) [(0, .agg #[.int .i64 a, .int .i64 b])] = some #[.int .i64 a, .int .i64 b] := by kernel_rfl
theorem gv_one (rows cols : Int) (A : Option Addr) (n c : Nat) : (gv rows cols A n c).all (·.oneCell') = true := three_one _ _ _ rfl rfl rfl
theorem results_ct {f : Func} {tmps : Array Value} {w : World} {a c : Tmp} {t tt : TypeId} {b : Nat} {cs : Array Value} {v : Value} {d : TypeDesc} (hf : f.results = #[.cell a t, .tmp c]) (ha : tmps[a]?.getD undef = .pointer (some ⟨b, 0, none⟩)) (hc : tmps[c]?.getD undef = v)
    (hh : w.heap[b]? = some (.cells cs tt (0, 0))) (hu : Try.prog.underlying t = some d) (hd : d.isRow = true) (hi : (Try.prog.info? t).map (·.size) = some cs.size) : (results f tmps).run Try.prog w = .ok (.tuple #[.agg cs, v]) w := results_cell hf ha hc hh hu hd hi
set_option maxRecDepth 20000 in
set_option maxHeartbeats 32000000 in
theorem best_no {w : World} {rows cols : Int} {A : Option Addr} {n c : Nat} {xs : List Ed} (hR : Rd Ed.cells 3 w w.heap.size A n xs) (hn : n ≤ 9223372036854775807) (hG : ¬ Gr rows cols xs) :
    Calls Try.prog 5 #[.agg (gv rows cols A n c)] w (Gives (.tuple #[.agg (cv none 0 0 none 0 0 none 0 0), .int .i64 170]) w) := by
  have HR := Lib.hid hR
  have HG := Lib.hid hG
  clear hR hG
  have S0 := mem_zero w
  go_enter Try.func5, Try.ntmps5
  go_wp2_with (first
    | (refine wpList_boxnew rfl 24 _ (by rfl) _ (by rfl) (gv rows cols A n c) rfl S0 ?_; intro w1 bg S1; clear S0)
    | (refine wpList_new rfl 28 (by rfl) (cv none 0 0 none 0 0 none 0 0) 3 zero28 S1 ?_; intro w2 b2 S2; clear S1)
    | (refine wpList_getrow rfl 24 _ (by rfl) bg (by rfl) S2 0 (by rfl) _ Try.underlying24 rfl (by exact size24) ?_)
    | fail)
  refine (check_ok ((HR.out.below S2.below).up S2.below.size) hn).mono ?_
  rintro e w3 ⟨rfl, x, rfl⟩
  have S3 := S2.up x.h
  clear S2
  generalize x.i = w4 at *
  clear x w2
  rw [chk_no HG.out]
  go_wp2_with (first
    | (refine wpList_build2 (by rfl) 28 [] (by rfl) [] (by rfl) (cv none 0 0 none 0 0 none 0 0) built28n ?_)
    | (refine wpList_putrow rfl 28 _ _ (by rfl) b2 (by rfl) (cv none 0 0 none 0 0 none 0 0) (by rfl) S3 1 (by rfl) size28 (by rfl) (three_one _ _ _ rfl rfl rfl) ?_; intro w5 S5; clear S3)
    | fail)
  try simp only [Exit.inBlock, Exit.then]
  refine bodyPost_ret (results_ct (a := 2) (c := 3) (t := 28) rfl (by rfl) (by rfl) (S5.at 1 rfl) Try.underlying28 rfl size28) rfl ?_
  exact gives_of S5.below
def iint (x : Int) : List Value := [.int .i64 x]
def BestPost (m k : Nat) (xs : List Ed) (w : World) (e : Ending) (w' : World) : Prop :=
  ∃ (f : Nat → Option Nat) (Y Z : Nat → Int) (A1 : Option Addr) (c1 b2 b3 : Nat), e = .returned (.tuple #[.agg (cv A1 (pl f m).length c1 (some ⟨b2, 0, none⟩) m m (some ⟨b3, 0, none⟩) k k), .int .i64 0]) ∧ Below w.heap.size w w' ∧
    Rd Pr.cells 2 w' w'.heap.size A1 (pl f m).length (pl f m) ∧ w'.heap[b2]? = some (.cells (iarr m Y) 3 (0, 0)) ∧ w'.heap[b3]? = some (.cells (iarr k Z) 3 (0, 0)) ∧ Mat m k (wt xs) f ∧ Lst m k (wt xs) f Y Z
theorem Lst.same {m k : Nat} {w : Nat → Nat → Int} {f : Nat → Option Nat} {y y2 z : Nat → Int} (h : Lst m k w f y z) (e : ∀ r, r < m → y2 r = y r) : Lst m k w f y2 z := by
  refine ⟨⟨fun r hr => by rw [e r hr]; exact h.dual.y0 r hr, h.dual.z0, fun r c hr hc => by rw [e r hr]; exact h.dual.le r c hr hc⟩, ⟨fun r c hr hc => by rw [e r hr]; exact h.comp.tight r c hr hc, fun r hr hc => by rw [e r hr]; exact h.comp.row r hr hc, h.comp.col⟩, h.least⟩
theorem Comp.yle {m k : Nat} {w : Nat → Nat → Int} {f : Nat → Option Nat} {y z : Nat → Int} {B : Int} (hc : Comp m k w f y z) (hd : Dual m k w y z) (hM : Mat m k w f) (hw : ∀ i c, 0 ≤ w i c ∧ w i c ≤ B) (hB : 0 ≤ B) {r : Nat} (hr : r < m) : y r ≤ B := by
  cases e : f r with
  | none => rw [hc.row r hr e]; exact hB
  | some c =>
    have := hc.tight r c hr e
    have := hd.z0 c (hM.edge r c hr e).1
    have := (hw r c).2
    omega
set_option maxRecDepth 20000 in
set_option maxHeartbeats 32000000 in
theorem best_yes {w : World} {m k : Nat} {A : Option Addr} {n c : Nat} {xs : List Ed} (hR : Rd Ed.cells 3 w w.heap.size A n xs) (hn : n ≤ 9223372036854775807) (hG : Gr m k xs) :
    Calls Try.prog 5 #[.agg (gv m k A n c)] w (BestPost m k xs w) := by
  have m64 : m ≤ 64 := by have := hG.1; unfold Sz at this; omega
  have k64 : k ≤ 64 := by have := hG.1; unfold Sz at this; omega
  have HW := Lib.hid hG.range
  have HIN := Lib.hid (fun r c (h : 0 < wt xs r c) => show r < m ∧ c < k from by have := hG.inside r c h; omega)
  have HR := Lib.hid hR
  have HG := Lib.hid hG
  clear hR hG
  have S0 := mem_zero w
  obtain ⟨i0, hi, hz0, hz1, hz2⟩ := info_parts info3
  obtain ⟨i5, hp, hp0, hp1, hp2⟩ := info_parts info50
  go_enter Try.func5, Try.ntmps5
  go_wp2_with (first
    | (refine wpList_boxnew rfl 24 _ (by rfl) _ (by rfl) (gv m k A n c) rfl S0 ?_; intro w1 bg S1; clear S0)
    | (refine wpList_new rfl 28 (by rfl) (cv none 0 0 none 0 0 none 0 0) 3 zero28 S1 ?_; intro w2 b2 S2; clear S1)
    | (refine wpList_getrow rfl 24 _ (by rfl) bg (by rfl) S2 0 (by rfl) _ Try.underlying24 rfl (by exact size24) ?_)
    | fail)
  refine (check_ok ((HR.out.below S2.below).up S2.below.size) hn).mono ?_
  rintro e w3 ⟨rfl, x, rfl⟩
  have S3 := S2.up x.h
  clear S2
  generalize x.i = w4 at *
  clear x w2
  rw [chk_ok HG.out]
  go_wp2_with (refine wpList_getrow rfl 24 _ (by rfl) bg (by rfl) S3 0 (by rfl) _ Try.underlying24 rfl (by exact size24) ?_)
  refine (laid_ok ((HR.out.below S3.below).up S3.below.size) hn HG.out).mono ?_
  rintro e w5 ⟨tb, rfl, htb, hb5, hT⟩
  have S5 := S3.add hb5 htb hT
  clear S3 htb hb5
  go_wp2_with fail
  refine (heaviest_ok hT m64 k64 (B := MAXW) (by unfold MAXW; omega) HW.out HIN.out).mono ?_
  rintro e w6 ⟨f0, y0, z0, rfl, hb6, hM, hD, hC⟩
  have S6 := S5.up hb6
  have HM := Lib.hid hM
  have HD := Lib.hid hD
  have HC := Lib.hid hC
  have hT6 : Tab w6 tb m k (wt xs) := S6.at 2 rfl
  clear S5 hb6 hM hD hC hT
  go_wp2_with fail
  refine (prices_ok hT6 m64 k64 (B := MAXW) (by unfold MAXW; omega) HW.out HM.out HD.out HC.out).mono ?_
  rintro e w7 ⟨Z, rfl, hb7, hL, hz⟩
  have S7 := S6.up hb7
  obtain ⟨Y, hY⟩ : ∃ Y : Nat → Int, Y = fun i => if i < m then own (wt xs) f0 Z i else 0 := ⟨_, rfl⟩
  rw [← hY]
  have HL := Lib.hid (hL.same (y2 := Y) (fun r hr => by rw [hY]; exact if_pos hr))
  clear S6 hb7 hL hz hY hT6
  go_wp2_with (first
    | (refine wpList_new rfl 44 (by rfl) (iarr 64 fun _ => 0) 64 zero44 S7 ?_; intro w8 by_ S8; clear S7)
    | (refine wpList_new rfl 44 (by rfl) (iarr 64 fun _ => 0) 64 zero44 S8 ?_; intro w9 bz S9; clear S8)
    | (refine wpList_putrow rfl 44 _ _ (by rfl) by_ (by rfl) (iarr 64 Y) (by rfl) S9 3 (by rfl) (by rw [iarr_size]; exact size44) (by rfl) (iarr_one _ _) ?_; intro w10 S10; clear S9)
    | (refine wpList_putrow rfl 44 _ _ (by rfl) bz (by rfl) (iarr 64 Z) (by rfl) S10 4 (by rfl) (by rw [iarr_size]; exact size44) (by rfl) (iarr_one _ _) ?_; intro w11 S11; clear S10)
    | (refine wpList_getrow rfl 44 _ (by rfl) by_ (by rfl) S11 3 (by rfl) _ Try.underlying44 rfl (by rw [iarr_size]; exact size44) ?_)
    | (refine wpList_getrow rfl 44 _ (by rfl) bz (by rfl) S11 4 (by rfl) _ Try.underlying44 rfl (by rw [iarr_size]; exact size44) ?_)
    | fail)
  have hT11 : Tab w11 tb m k (wt xs) := S11.at 2 rfl
  refine (least_ok hT11 m64 k64 HW.out (fun r hr => ⟨HL.out.dual.y0 r hr, HL.out.comp.yle HL.out.dual HM.out HW.out (by decide) hr⟩) (fun c hc => ⟨HL.out.dual.z0 c hc, HL.out.comp.zle HL.out.dual HW.out (by decide) hc⟩) HM.out HL.out.comp).mono ?_
  rintro e w12 ⟨f, T, rfl, hb12, hDn⟩
  have S12 := S11.up hb12
  have HDN := Lib.hid hDn
  clear S11 hb12 hT11 hDn
  go_upto_region 7 with (first
    | (refine wpList_new rfl 44 (by rfl) (iarr 64 fun _ => 0) 64 zero44 S12 ?_; intro w13 bo S13; clear S12)
    | (refine wpList_putrow rfl 44 _ _ (by rfl) bo (by rfl) (iarr 64 (toX m f)) (by rfl) S13 5 (by rfl) (by rw [iarr_size]; exact size44) (by rfl) (iarr_one _ _) ?_; intro w14 S14; clear S13)
    | fail)
  have M0 : Mem w w14 [(bg, .cells (gv m k A n c) 24 (0, 0)), (b2, .cells (cv none 0 0 none 0 0 none 0 0) 28 (0, 0)), (tb, .cells (tarr m k (wt xs)) 57 (0, 0)), (by_, .cells (iarr 64 Y) 44 (0, 0)), (bz, .cells (iarr 64 Z) 44 (0, 0)), (bo, .cells (iarr 64 (toX m f)) 44 (0, 0))] := S14
  clear S14
  go_frame
  go_cut [9] (fun s9 wx => ∃ sy sz bc : Nat, s9 = .pointer (some ⟨bc, 0, none⟩) ∧ Mem w wx [(bg, .cells (gv m k A n c) 24 (0, 0)), (b2, .cells (cv none 0 0 none 0 0 none 0 0) 28 (0, 0)), (tb, .cells (tarr m k (wt xs)) 57 (0, 0)), (by_, .cells (iarr 64 Y) 44 (0, 0)), (bz, .cells (iarr 64 Z) 44 (0, 0)), (bo, .cells (iarr 64 (toX m f)) 44 (0, 0)), (sy, .cells (iarr m (fun _ => 0)) 3 (0, 0)), (sz, .cells (iarr k (fun _ => 0)) 3 (0, 0)), (bc, .cells #[.slice none 0 0, .slice (some ⟨sy, 0, none⟩) m m, .slice (some ⟨sz, 0, none⟩) k k] 28 (0, 0))])
  case first =>
        have M0 := M0.drew
        refine wp_region_held_drew (S := fun v => Mem w v [(bg, .cells (gv m k A n c) 24 (0, 0)), (b2, .cells (cv none 0 0 none 0 0 none 0 0) 28 (0, 0)), (tb, .cells (tarr m k (wt xs)) 57 (0, 0)), (by_, .cells (iarr 64 Y) 44 (0, 0)), (bz, .cells (iarr 64 Z) 44 (0, 0)), (bo, .cells (iarr 64 (toX m f)) 44 (0, 0))]) (by kernel_rfl) (M0) ?_
        intro hS
        try simp only [Act.put, List.setIfInBounds_toArray, List.set_cons_zero, List.set_cons_succ]
        refine wpAnyH_take (i := 0) (oi := { dst := some 30, op := Op.fieldAddr 24 (Operand.tmp 1) 0, type := 0, pos := "assign.go:185", after := #[], guard := none }) (v := .pointer (some ⟨bg, 0, none⟩)) rfl (by kernel_rfl) (by kernel_rfl) (by kernel_rfl) (fun _ _ _ h => h) (Or.inl ⟨by rfl, ?_⟩) (by assumption) ?_
        · intro z hz
          go_simp
        try simp only [Act.put, List.setIfInBounds_toArray, List.set_cons_zero, List.set_cons_succ]
        refine wpAnyH_take (i := 1) (oi := { dst := some 31, op := Op.load 3 (Operand.tmp 30), type := 3, pos := "assign.go:185", after := #[{ on := 0, ground := Ground.data }], guard := none }) (v := .int .i64 m) rfl (by kernel_rfl) (by kernel_rfl) (by kernel_rfl) (fun _ _ _ h => h) (Or.inl ⟨by rfl, ?_⟩) (by assumption) ?_
        · intro z hz
          have q := hz.cell 0 (b := bg) rfl (j := 0) (v := .int .i64 m) rfl
          go_simp
        try simp only [Act.put, List.setIfInBounds_toArray, List.set_cons_zero, List.set_cons_succ]
        refine wpAnyH_take (i := 3) (oi := { dst := some 33, op := Op.fieldAddr 24 (Operand.tmp 1) 1, type := 0, pos := "assign.go:185", after := #[], guard := none }) (v := .pointer (some ⟨bg, 1, none⟩)) rfl (by kernel_rfl) (by kernel_rfl) (by kernel_rfl) (fun _ _ _ h => h) (Or.inl ⟨by rfl, ?_⟩) (by assumption) ?_
        · intro z hz
          go_simp
        try simp only [Act.put, List.setIfInBounds_toArray, List.set_cons_zero, List.set_cons_succ]
        refine wpAnyH_take (i := 4) (oi := { dst := some 34, op := Op.load 3 (Operand.tmp 33), type := 3, pos := "assign.go:185", after := #[{ on := 3, ground := Ground.data }], guard := none }) (v := .int .i64 k) rfl (by kernel_rfl) (by kernel_rfl) (by kernel_rfl) (fun _ _ _ h => h) (Or.inl ⟨by rfl, ?_⟩) (by assumption) ?_
        · intro z hz
          have q := hz.cell 0 (b := bg) rfl (j := 1) (v := .int .i64 k) rfl
          go_simp
        try simp only [Act.put, List.setIfInBounds_toArray, List.set_cons_zero, List.set_cons_succ]
        refine wpAnyH_ready (rs := [2, 5, 7]) (by kernel_rfl) (by simp) ?_
        refine (AllReadyH.cons (o := { dst := some 32, op := Op.makeSlice 25 (Operand.tmp 31) (Operand.tmp 31), type := 25, pos := "assign.go:185", after := #[{ on := 1, ground := Ground.data }, { on := 1, ground := Ground.data }], guard := none }) rfl (fun K hK => ?_) (AllReadyH.cons (o := { dst := some 35, op := Op.makeSlice 25 (Operand.tmp 34) (Operand.tmp 34), type := 25, pos := "assign.go:185", after := #[{ on := 4, ground := Ground.data }, { on := 4, ground := Ground.data }], guard := none }) rfl (fun K hK => ?_) (AllReadyH.cons (o := { dst := some 9, op := Op.alloc 28, type := 0, pos := "assign.go:185", after := #[], guard := none }) rfl (fun K hK => ?_) AllReadyH.nil)))
        · rw [if_pos (by rfl)]
          refine wp_makeM 25 3 _ _ (by rfl) i0 m (by rfl) (by rfl) Try.underlying25 hi hz0 hz1 hz2 (by omega) M0 ?_
          intro W1 sy M1
          clear M0 hS
          refine hK.out _ _ (Mem.pre [_, _, _, _, _, _] M1) ?_
          clear hK K
          intro hS
          try simp only [Act.put, List.setIfInBounds_toArray, List.set_cons_zero, List.set_cons_succ]
          refine wpAnyH_ready (rs := [5, 7]) (by kernel_rfl) (by simp) ?_
          refine (AllReadyH.cons (o := { dst := some 35, op := Op.makeSlice 25 (Operand.tmp 34) (Operand.tmp 34), type := 25, pos := "assign.go:185", after := #[{ on := 4, ground := Ground.data }, { on := 4, ground := Ground.data }], guard := none }) rfl (fun K hK => ?_) (AllReadyH.cons (o := { dst := some 9, op := Op.alloc 28, type := 0, pos := "assign.go:185", after := #[], guard := none }) rfl (fun K hK => ?_) AllReadyH.nil))
          · rw [if_pos (by rfl)]
            refine wp_makeM 25 3 _ _ (by rfl) i0 k (by rfl) (by rfl) Try.underlying25 hi hz0 hz1 hz2 (by omega) M1 ?_
            intro W2 sz M2
            clear M1 hS
            refine hK.out _ _ (Mem.pre [_, _, _, _, _, _] M2) ?_
            clear hK K
            intro hS
            try simp only [Act.put, List.setIfInBounds_toArray, List.set_cons_zero, List.set_cons_succ]
            refine wpAnyH_take (i := 6) (oi := { dst := some 36, op := Op.build 28 #[(1, Operand.tmp 32), (2, Operand.tmp 35)], type := 28, pos := "assign.go:185", after := #[{ on := 2, ground := Ground.data }, { on := 5, ground := Ground.data }], guard := none }) (v := .agg #[.slice none 0 0, .slice (some ⟨sy, 0, none⟩) m m, .slice (some ⟨sz, 0, none⟩) k k]) rfl (by kernel_rfl) (by kernel_rfl) (by kernel_rfl) (fun _ _ _ h => h) (Or.inl ⟨by rfl, ?_⟩) (by assumption) ?_
            · intro z hz
              go_simp
            try simp only [Act.put, List.setIfInBounds_toArray, List.set_cons_zero, List.set_cons_succ]
            refine wpAnyH_ready (rs := [7]) (by kernel_rfl) (by simp) ?_
            refine (AllReadyH.cons (o := { dst := some 9, op := Op.alloc 28, type := 0, pos := "assign.go:185", after := #[], guard := none }) rfl (fun K hK => ?_) AllReadyH.nil)
            rw [if_pos (by rfl)]
            refine wp_newM 28 (by rfl) (cv none 0 0 none 0 0 none 0 0) 3 zero28 M2 ?_
            intro W3 bc M3
            clear M2 hS
            refine hK.out _ _ (Mem.pre [_, _, _, _, _, _] M3) ?_
            clear hK K
            intro hS
            try simp only [Act.put, List.setIfInBounds_toArray, List.set_cons_zero, List.set_cons_succ]
            refine wpAnyH_ready (rs := [8]) (by kernel_rfl) (by simp) ?_
            refine (AllReadyH.cons (o := { dst := none, op := Op.store 28 (Operand.tmp 9) (Operand.tmp 36), type := 0, pos := "assign.go:185", after := #[{ on := 7, ground := Ground.data }, { on := 6, ground := Ground.data }, { on := 0, ground := Ground.phase }, { on := 1, ground := Ground.phase }, { on := 2, ground := Ground.phase }, { on := 3, ground := Ground.phase }, { on := 4, ground := Ground.phase }, { on := 5, ground := Ground.phase }, { on := 6, ground := Ground.phase }, { on := 7, ground := Ground.phase }], guard := none }) rfl (fun K hK => ?_) AllReadyH.nil)
            rw [if_pos (by rfl)]
            refine wp_putrowM 28 _ _ (by rfl) bc (by rfl) #[.slice none 0 0, .slice (some ⟨sy, 0, none⟩) m m, .slice (some ⟨sz, 0, none⟩) k k] (by rfl) M3 8 (by rfl) size28 (by rfl) (three_one _ _ _ rfl rfl rfl) ?_
            intro W4 M4
            clear M3 hS
            refine hK.out _ _ (Mem.pre [_, _, _, _, _, _] M4) ?_
            clear hK K
            intro hS
            try simp only [Act.put, List.setIfInBounds_toArray, List.set_cons_zero, List.set_cons_succ]
            refine wpAnyH_done (by kernel_rfl) ?_ _
            go_wp2_with fail
            go_meet
            exact ⟨sy, sz, bc, rfl, Mem.sel M4 [0, 1, 2, 3, 4, 5, 6, 7, 8] (by decide)⟩
          · rw [if_pos (by rfl)]
            refine wp_newM 28 (by rfl) (cv none 0 0 none 0 0 none 0 0) 3 zero28 M1 ?_
            intro W5 bc M5
            clear M1 hS
            refine hK.out _ _ (Mem.pre [_, _, _, _, _, _] M5) ?_
            clear hK K
            intro hS
            try simp only [Act.put, List.setIfInBounds_toArray, List.set_cons_zero, List.set_cons_succ]
            refine wpAnyH_ready (rs := [5]) (by kernel_rfl) (by simp) ?_
            refine (AllReadyH.cons (o := { dst := some 35, op := Op.makeSlice 25 (Operand.tmp 34) (Operand.tmp 34), type := 25, pos := "assign.go:185", after := #[{ on := 4, ground := Ground.data }, { on := 4, ground := Ground.data }], guard := none }) rfl (fun K hK => ?_) AllReadyH.nil)
            rw [if_pos (by rfl)]
            refine wp_makeM 25 3 _ _ (by rfl) i0 k (by rfl) (by rfl) Try.underlying25 hi hz0 hz1 hz2 (by omega) M5 ?_
            intro W6 sz M6
            clear M5 hS
            refine hK.out _ _ (Mem.pre [_, _, _, _, _, _] M6) ?_
            clear hK K
            intro hS
            try simp only [Act.put, List.setIfInBounds_toArray, List.set_cons_zero, List.set_cons_succ]
            refine wpAnyH_take (i := 6) (oi := { dst := some 36, op := Op.build 28 #[(1, Operand.tmp 32), (2, Operand.tmp 35)], type := 28, pos := "assign.go:185", after := #[{ on := 2, ground := Ground.data }, { on := 5, ground := Ground.data }], guard := none }) (v := .agg #[.slice none 0 0, .slice (some ⟨sy, 0, none⟩) m m, .slice (some ⟨sz, 0, none⟩) k k]) rfl (by kernel_rfl) (by kernel_rfl) (by kernel_rfl) (fun _ _ _ h => h) (Or.inl ⟨by rfl, ?_⟩) (by assumption) ?_
            · intro z hz
              go_simp
            try simp only [Act.put, List.setIfInBounds_toArray, List.set_cons_zero, List.set_cons_succ]
            refine wpAnyH_ready (rs := [8]) (by kernel_rfl) (by simp) ?_
            refine (AllReadyH.cons (o := { dst := none, op := Op.store 28 (Operand.tmp 9) (Operand.tmp 36), type := 0, pos := "assign.go:185", after := #[{ on := 7, ground := Ground.data }, { on := 6, ground := Ground.data }, { on := 0, ground := Ground.phase }, { on := 1, ground := Ground.phase }, { on := 2, ground := Ground.phase }, { on := 3, ground := Ground.phase }, { on := 4, ground := Ground.phase }, { on := 5, ground := Ground.phase }, { on := 6, ground := Ground.phase }, { on := 7, ground := Ground.phase }], guard := none }) rfl (fun K hK => ?_) AllReadyH.nil)
            rw [if_pos (by rfl)]
            refine wp_putrowM 28 _ _ (by rfl) bc (by rfl) #[.slice none 0 0, .slice (some ⟨sy, 0, none⟩) m m, .slice (some ⟨sz, 0, none⟩) k k] (by rfl) M6 7 (by rfl) size28 (by rfl) (three_one _ _ _ rfl rfl rfl) ?_
            intro W7 M7
            clear M6 hS
            refine hK.out _ _ (Mem.pre [_, _, _, _, _, _] M7) ?_
            clear hK K
            intro hS
            try simp only [Act.put, List.setIfInBounds_toArray, List.set_cons_zero, List.set_cons_succ]
            refine wpAnyH_done (by kernel_rfl) ?_ _
            go_wp2_with fail
            go_meet
            exact ⟨sy, sz, bc, rfl, Mem.sel M7 [0, 1, 2, 3, 4, 5, 6, 8, 7] (by decide)⟩
        · rw [if_pos (by rfl)]
          refine wp_makeM 25 3 _ _ (by rfl) i0 k (by rfl) (by rfl) Try.underlying25 hi hz0 hz1 hz2 (by omega) M0 ?_
          intro W8 sz M8
          clear M0 hS
          refine hK.out _ _ (Mem.pre [_, _, _, _, _, _] M8) ?_
          clear hK K
          intro hS
          try simp only [Act.put, List.setIfInBounds_toArray, List.set_cons_zero, List.set_cons_succ]
          refine wpAnyH_ready (rs := [2, 7]) (by kernel_rfl) (by simp) ?_
          refine (AllReadyH.cons (o := { dst := some 32, op := Op.makeSlice 25 (Operand.tmp 31) (Operand.tmp 31), type := 25, pos := "assign.go:185", after := #[{ on := 1, ground := Ground.data }, { on := 1, ground := Ground.data }], guard := none }) rfl (fun K hK => ?_) (AllReadyH.cons (o := { dst := some 9, op := Op.alloc 28, type := 0, pos := "assign.go:185", after := #[], guard := none }) rfl (fun K hK => ?_) AllReadyH.nil))
          · rw [if_pos (by rfl)]
            refine wp_makeM 25 3 _ _ (by rfl) i0 m (by rfl) (by rfl) Try.underlying25 hi hz0 hz1 hz2 (by omega) M8 ?_
            intro W9 sy M9
            clear M8 hS
            refine hK.out _ _ (Mem.pre [_, _, _, _, _, _] M9) ?_
            clear hK K
            intro hS
            try simp only [Act.put, List.setIfInBounds_toArray, List.set_cons_zero, List.set_cons_succ]
            refine wpAnyH_take (i := 6) (oi := { dst := some 36, op := Op.build 28 #[(1, Operand.tmp 32), (2, Operand.tmp 35)], type := 28, pos := "assign.go:185", after := #[{ on := 2, ground := Ground.data }, { on := 5, ground := Ground.data }], guard := none }) (v := .agg #[.slice none 0 0, .slice (some ⟨sy, 0, none⟩) m m, .slice (some ⟨sz, 0, none⟩) k k]) rfl (by kernel_rfl) (by kernel_rfl) (by kernel_rfl) (fun _ _ _ h => h) (Or.inl ⟨by rfl, ?_⟩) (by assumption) ?_
            · intro z hz
              go_simp
            try simp only [Act.put, List.setIfInBounds_toArray, List.set_cons_zero, List.set_cons_succ]
            refine wpAnyH_ready (rs := [7]) (by kernel_rfl) (by simp) ?_
            refine (AllReadyH.cons (o := { dst := some 9, op := Op.alloc 28, type := 0, pos := "assign.go:185", after := #[], guard := none }) rfl (fun K hK => ?_) AllReadyH.nil)
            rw [if_pos (by rfl)]
            refine wp_newM 28 (by rfl) (cv none 0 0 none 0 0 none 0 0) 3 zero28 M9 ?_
            intro W10 bc M10
            clear M9 hS
            refine hK.out _ _ (Mem.pre [_, _, _, _, _, _] M10) ?_
            clear hK K
            intro hS
            try simp only [Act.put, List.setIfInBounds_toArray, List.set_cons_zero, List.set_cons_succ]
            refine wpAnyH_ready (rs := [8]) (by kernel_rfl) (by simp) ?_
            refine (AllReadyH.cons (o := { dst := none, op := Op.store 28 (Operand.tmp 9) (Operand.tmp 36), type := 0, pos := "assign.go:185", after := #[{ on := 7, ground := Ground.data }, { on := 6, ground := Ground.data }, { on := 0, ground := Ground.phase }, { on := 1, ground := Ground.phase }, { on := 2, ground := Ground.phase }, { on := 3, ground := Ground.phase }, { on := 4, ground := Ground.phase }, { on := 5, ground := Ground.phase }, { on := 6, ground := Ground.phase }, { on := 7, ground := Ground.phase }], guard := none }) rfl (fun K hK => ?_) AllReadyH.nil)
            rw [if_pos (by rfl)]
            refine wp_putrowM 28 _ _ (by rfl) bc (by rfl) #[.slice none 0 0, .slice (some ⟨sy, 0, none⟩) m m, .slice (some ⟨sz, 0, none⟩) k k] (by rfl) M10 8 (by rfl) size28 (by rfl) (three_one _ _ _ rfl rfl rfl) ?_
            intro W11 M11
            clear M10 hS
            refine hK.out _ _ (Mem.pre [_, _, _, _, _, _] M11) ?_
            clear hK K
            intro hS
            try simp only [Act.put, List.setIfInBounds_toArray, List.set_cons_zero, List.set_cons_succ]
            refine wpAnyH_done (by kernel_rfl) ?_ _
            go_wp2_with fail
            go_meet
            exact ⟨sy, sz, bc, rfl, Mem.sel M11 [0, 1, 2, 3, 4, 5, 7, 6, 8] (by decide)⟩
          · rw [if_pos (by rfl)]
            refine wp_newM 28 (by rfl) (cv none 0 0 none 0 0 none 0 0) 3 zero28 M8 ?_
            intro W12 bc M12
            clear M8 hS
            refine hK.out _ _ (Mem.pre [_, _, _, _, _, _] M12) ?_
            clear hK K
            intro hS
            try simp only [Act.put, List.setIfInBounds_toArray, List.set_cons_zero, List.set_cons_succ]
            refine wpAnyH_ready (rs := [2]) (by kernel_rfl) (by simp) ?_
            refine (AllReadyH.cons (o := { dst := some 32, op := Op.makeSlice 25 (Operand.tmp 31) (Operand.tmp 31), type := 25, pos := "assign.go:185", after := #[{ on := 1, ground := Ground.data }, { on := 1, ground := Ground.data }], guard := none }) rfl (fun K hK => ?_) AllReadyH.nil)
            rw [if_pos (by rfl)]
            refine wp_makeM 25 3 _ _ (by rfl) i0 m (by rfl) (by rfl) Try.underlying25 hi hz0 hz1 hz2 (by omega) M12 ?_
            intro W13 sy M13
            clear M12 hS
            refine hK.out _ _ (Mem.pre [_, _, _, _, _, _] M13) ?_
            clear hK K
            intro hS
            try simp only [Act.put, List.setIfInBounds_toArray, List.set_cons_zero, List.set_cons_succ]
            refine wpAnyH_take (i := 6) (oi := { dst := some 36, op := Op.build 28 #[(1, Operand.tmp 32), (2, Operand.tmp 35)], type := 28, pos := "assign.go:185", after := #[{ on := 2, ground := Ground.data }, { on := 5, ground := Ground.data }], guard := none }) (v := .agg #[.slice none 0 0, .slice (some ⟨sy, 0, none⟩) m m, .slice (some ⟨sz, 0, none⟩) k k]) rfl (by kernel_rfl) (by kernel_rfl) (by kernel_rfl) (fun _ _ _ h => h) (Or.inl ⟨by rfl, ?_⟩) (by assumption) ?_
            · intro z hz
              go_simp
            try simp only [Act.put, List.setIfInBounds_toArray, List.set_cons_zero, List.set_cons_succ]
            refine wpAnyH_ready (rs := [8]) (by kernel_rfl) (by simp) ?_
            refine (AllReadyH.cons (o := { dst := none, op := Op.store 28 (Operand.tmp 9) (Operand.tmp 36), type := 0, pos := "assign.go:185", after := #[{ on := 7, ground := Ground.data }, { on := 6, ground := Ground.data }, { on := 0, ground := Ground.phase }, { on := 1, ground := Ground.phase }, { on := 2, ground := Ground.phase }, { on := 3, ground := Ground.phase }, { on := 4, ground := Ground.phase }, { on := 5, ground := Ground.phase }, { on := 6, ground := Ground.phase }, { on := 7, ground := Ground.phase }], guard := none }) rfl (fun K hK => ?_) AllReadyH.nil)
            rw [if_pos (by rfl)]
            refine wp_putrowM 28 _ _ (by rfl) bc (by rfl) #[.slice none 0 0, .slice (some ⟨sy, 0, none⟩) m m, .slice (some ⟨sz, 0, none⟩) k k] (by rfl) M13 7 (by rfl) size28 (by rfl) (three_one _ _ _ rfl rfl rfl) ?_
            intro W14 M14
            clear M13 hS
            refine hK.out _ _ (Mem.pre [_, _, _, _, _, _] M14) ?_
            clear hK K
            intro hS
            try simp only [Act.put, List.setIfInBounds_toArray, List.set_cons_zero, List.set_cons_succ]
            refine wpAnyH_done (by kernel_rfl) ?_ _
            go_wp2_with fail
            go_meet
            exact ⟨sy, sz, bc, rfl, Mem.sel M14 [0, 1, 2, 3, 4, 5, 8, 6, 7] (by decide)⟩
        · rw [if_pos (by rfl)]
          refine wp_newM 28 (by rfl) (cv none 0 0 none 0 0 none 0 0) 3 zero28 M0 ?_
          intro W15 bc M15
          clear M0 hS
          refine hK.out _ _ (Mem.pre [_, _, _, _, _, _] M15) ?_
          clear hK K
          intro hS
          try simp only [Act.put, List.setIfInBounds_toArray, List.set_cons_zero, List.set_cons_succ]
          refine wpAnyH_ready (rs := [2, 5]) (by kernel_rfl) (by simp) ?_
          refine (AllReadyH.cons (o := { dst := some 32, op := Op.makeSlice 25 (Operand.tmp 31) (Operand.tmp 31), type := 25, pos := "assign.go:185", after := #[{ on := 1, ground := Ground.data }, { on := 1, ground := Ground.data }], guard := none }) rfl (fun K hK => ?_) (AllReadyH.cons (o := { dst := some 35, op := Op.makeSlice 25 (Operand.tmp 34) (Operand.tmp 34), type := 25, pos := "assign.go:185", after := #[{ on := 4, ground := Ground.data }, { on := 4, ground := Ground.data }], guard := none }) rfl (fun K hK => ?_) AllReadyH.nil))
          · rw [if_pos (by rfl)]
            refine wp_makeM 25 3 _ _ (by rfl) i0 m (by rfl) (by rfl) Try.underlying25 hi hz0 hz1 hz2 (by omega) M15 ?_
            intro W16 sy M16
            clear M15 hS
            refine hK.out _ _ (Mem.pre [_, _, _, _, _, _] M16) ?_
            clear hK K
            intro hS
            try simp only [Act.put, List.setIfInBounds_toArray, List.set_cons_zero, List.set_cons_succ]
            refine wpAnyH_ready (rs := [5]) (by kernel_rfl) (by simp) ?_
            refine (AllReadyH.cons (o := { dst := some 35, op := Op.makeSlice 25 (Operand.tmp 34) (Operand.tmp 34), type := 25, pos := "assign.go:185", after := #[{ on := 4, ground := Ground.data }, { on := 4, ground := Ground.data }], guard := none }) rfl (fun K hK => ?_) AllReadyH.nil)
            rw [if_pos (by rfl)]
            refine wp_makeM 25 3 _ _ (by rfl) i0 k (by rfl) (by rfl) Try.underlying25 hi hz0 hz1 hz2 (by omega) M16 ?_
            intro W17 sz M17
            clear M16 hS
            refine hK.out _ _ (Mem.pre [_, _, _, _, _, _] M17) ?_
            clear hK K
            intro hS
            try simp only [Act.put, List.setIfInBounds_toArray, List.set_cons_zero, List.set_cons_succ]
            refine wpAnyH_take (i := 6) (oi := { dst := some 36, op := Op.build 28 #[(1, Operand.tmp 32), (2, Operand.tmp 35)], type := 28, pos := "assign.go:185", after := #[{ on := 2, ground := Ground.data }, { on := 5, ground := Ground.data }], guard := none }) (v := .agg #[.slice none 0 0, .slice (some ⟨sy, 0, none⟩) m m, .slice (some ⟨sz, 0, none⟩) k k]) rfl (by kernel_rfl) (by kernel_rfl) (by kernel_rfl) (fun _ _ _ h => h) (Or.inl ⟨by rfl, ?_⟩) (by assumption) ?_
            · intro z hz
              go_simp
            try simp only [Act.put, List.setIfInBounds_toArray, List.set_cons_zero, List.set_cons_succ]
            refine wpAnyH_ready (rs := [8]) (by kernel_rfl) (by simp) ?_
            refine (AllReadyH.cons (o := { dst := none, op := Op.store 28 (Operand.tmp 9) (Operand.tmp 36), type := 0, pos := "assign.go:185", after := #[{ on := 7, ground := Ground.data }, { on := 6, ground := Ground.data }, { on := 0, ground := Ground.phase }, { on := 1, ground := Ground.phase }, { on := 2, ground := Ground.phase }, { on := 3, ground := Ground.phase }, { on := 4, ground := Ground.phase }, { on := 5, ground := Ground.phase }, { on := 6, ground := Ground.phase }, { on := 7, ground := Ground.phase }], guard := none }) rfl (fun K hK => ?_) AllReadyH.nil)
            rw [if_pos (by rfl)]
            refine wp_putrowM 28 _ _ (by rfl) bc (by rfl) #[.slice none 0 0, .slice (some ⟨sy, 0, none⟩) m m, .slice (some ⟨sz, 0, none⟩) k k] (by rfl) M17 6 (by rfl) size28 (by rfl) (three_one _ _ _ rfl rfl rfl) ?_
            intro W18 M18
            clear M17 hS
            refine hK.out _ _ (Mem.pre [_, _, _, _, _, _] M18) ?_
            clear hK K
            intro hS
            try simp only [Act.put, List.setIfInBounds_toArray, List.set_cons_zero, List.set_cons_succ]
            refine wpAnyH_done (by kernel_rfl) ?_ _
            go_wp2_with fail
            go_meet
            exact ⟨sy, sz, bc, rfl, Mem.sel M18 [0, 1, 2, 3, 4, 5, 7, 8, 6] (by decide)⟩
          · rw [if_pos (by rfl)]
            refine wp_makeM 25 3 _ _ (by rfl) i0 k (by rfl) (by rfl) Try.underlying25 hi hz0 hz1 hz2 (by omega) M15 ?_
            intro W19 sz M19
            clear M15 hS
            refine hK.out _ _ (Mem.pre [_, _, _, _, _, _] M19) ?_
            clear hK K
            intro hS
            try simp only [Act.put, List.setIfInBounds_toArray, List.set_cons_zero, List.set_cons_succ]
            refine wpAnyH_ready (rs := [2]) (by kernel_rfl) (by simp) ?_
            refine (AllReadyH.cons (o := { dst := some 32, op := Op.makeSlice 25 (Operand.tmp 31) (Operand.tmp 31), type := 25, pos := "assign.go:185", after := #[{ on := 1, ground := Ground.data }, { on := 1, ground := Ground.data }], guard := none }) rfl (fun K hK => ?_) AllReadyH.nil)
            rw [if_pos (by rfl)]
            refine wp_makeM 25 3 _ _ (by rfl) i0 m (by rfl) (by rfl) Try.underlying25 hi hz0 hz1 hz2 (by omega) M19 ?_
            intro W20 sy M20
            clear M19 hS
            refine hK.out _ _ (Mem.pre [_, _, _, _, _, _] M20) ?_
            clear hK K
            intro hS
            try simp only [Act.put, List.setIfInBounds_toArray, List.set_cons_zero, List.set_cons_succ]
            refine wpAnyH_take (i := 6) (oi := { dst := some 36, op := Op.build 28 #[(1, Operand.tmp 32), (2, Operand.tmp 35)], type := 28, pos := "assign.go:185", after := #[{ on := 2, ground := Ground.data }, { on := 5, ground := Ground.data }], guard := none }) (v := .agg #[.slice none 0 0, .slice (some ⟨sy, 0, none⟩) m m, .slice (some ⟨sz, 0, none⟩) k k]) rfl (by kernel_rfl) (by kernel_rfl) (by kernel_rfl) (fun _ _ _ h => h) (Or.inl ⟨by rfl, ?_⟩) (by assumption) ?_
            · intro z hz
              go_simp
            try simp only [Act.put, List.setIfInBounds_toArray, List.set_cons_zero, List.set_cons_succ]
            refine wpAnyH_ready (rs := [8]) (by kernel_rfl) (by simp) ?_
            refine (AllReadyH.cons (o := { dst := none, op := Op.store 28 (Operand.tmp 9) (Operand.tmp 36), type := 0, pos := "assign.go:185", after := #[{ on := 7, ground := Ground.data }, { on := 6, ground := Ground.data }, { on := 0, ground := Ground.phase }, { on := 1, ground := Ground.phase }, { on := 2, ground := Ground.phase }, { on := 3, ground := Ground.phase }, { on := 4, ground := Ground.phase }, { on := 5, ground := Ground.phase }, { on := 6, ground := Ground.phase }, { on := 7, ground := Ground.phase }], guard := none }) rfl (fun K hK => ?_) AllReadyH.nil)
            rw [if_pos (by rfl)]
            refine wp_putrowM 28 _ _ (by rfl) bc (by rfl) #[.slice none 0 0, .slice (some ⟨sy, 0, none⟩) m m, .slice (some ⟨sz, 0, none⟩) k k] (by rfl) M20 6 (by rfl) size28 (by rfl) (three_one _ _ _ rfl rfl rfl) ?_
            intro W21 M21
            clear M20 hS
            refine hK.out _ _ (Mem.pre [_, _, _, _, _, _] M21) ?_
            clear hK K
            intro hS
            try simp only [Act.put, List.setIfInBounds_toArray, List.set_cons_zero, List.set_cons_succ]
            refine wpAnyH_done (by kernel_rfl) ?_ _
            go_wp2_with fail
            go_meet
            exact ⟨sy, sz, bc, rfl, Mem.sel M21 [0, 1, 2, 3, 4, 5, 8, 7, 6] (by decide)⟩
  case rest =>
    clear M0
    obtain ⟨sy, sz, bc, rfl, S1⟩ := hcut
    have q0 := S1.cell 8 (b := bc) rfl (j := 1) (v := .slice (some ⟨sy, 0, none⟩) m m) rfl
    go_wp2_with fail
    refine wp_region_tailq 3 (by kernel_rfl) (by kernel_rfl) ?_
    simp only [List.take_succ_cons, List.take_zero, List.drop_succ_cons, List.drop_zero]
    repeat (go_big_quiet_step (fail))
    refine wpQuiet_nil ?_
    have S2 := S1.drew
    clear S1 q0
    generalize wc.drew = w15 at *
    go_wp2_with (first
      | (refine wpList_copyM rfl _ _ 25 25 3 (by rfl) Try.underlying25 size3 m 64 sy by_ (fun _ => 0) Y m64 (by rfl) (by rfl) S2 6 3 (by rfl) (by rfl) ?_; intro w16 S3; clear S2)
      | fail)
    go_frame
    have q0 := S3.cell 8 (b := bc) rfl (j := 2) (v := .slice (some ⟨sz, 0, none⟩) k k) rfl
    refine wp_region_tailq 3 (by kernel_rfl) (by kernel_rfl) ?_
    simp only [List.take_succ_cons, List.take_zero, List.drop_succ_cons, List.drop_zero]
    repeat (go_big_quiet_step (fail))
    refine wpQuiet_nil ?_
    have S4 := S3.drew
    clear S3 q0
    generalize w16.drew = w17 at *
    go_wp2_with (first
      | (refine wpList_copyM rfl _ _ 25 25 3 (by rfl) Try.underlying25 size3 k 64 sz bz (fun _ => 0) Z k64 (by rfl) (by rfl) S4 7 4 (by rfl) (by rfl) ?_; intro w18 S5; clear S4)
      | fail)
    have S6 : MA w w18 [(bg, .cells (gv m k A n c) 24 (0, 0)), (b2, .cells (cv none 0 0 none 0 0 none 0 0) 28 (0, 0)), (tb, .cells (tarr m k (wt xs)) 57 (0, 0)), (by_, .cells (iarr 64 Y) 44 (0, 0)), (bz, .cells (iarr 64 Z) 44 (0, 0)), (bo, .cells (iarr 64 (toX m f)) 44 (0, 0)), (sy, .cells (iarr m Y) 3 (0, 0)), (sz, .cells (iarr k Z) 3 (0, 0)), (bc, .cells #[.slice none 0 0, .slice (some ⟨sy, 0, none⟩) m m, .slice (some ⟨sz, 0, none⟩) k k] 28 (0, 0))] 50 2 (.slice none 0 0) 0 [] := MA.start S5 50 2
    clear S5
    go_loopg [10] m (fun gk v10 wr => ∃ (r : Nat) (pv : Value), gk + r = m ∧ v10 = .int .i64 r ∧ MA w wr [(bg, .cells (gv m k A n c) 24 (0, 0)), (b2, .cells (cv none 0 0 none 0 0 none 0 0) 28 (0, 0)), (tb, .cells (tarr m k (wt xs)) 57 (0, 0)), (by_, .cells (iarr 64 Y) 44 (0, 0)), (bz, .cells (iarr 64 Z) 44 (0, 0)), (bo, .cells (iarr 64 (toX m f)) 44 (0, 0)), (sy, .cells (iarr m Y) 3 (0, 0)), (sz, .cells (iarr k Z) 3 (0, 0)), (bc, .cells #[pv, .slice (some ⟨sy, 0, none⟩) m m, .slice (some ⟨sz, 0, none⟩) k k] 28 (0, 0))] 50 2 pv (pl f r).length ((pl f r).flatMap Pr.cells))
    case atStart => exact ⟨0, .slice none 0 0, rfl, rfl, S6⟩
    case round =>
      clear S6
      obtain ⟨r, pv, hr, rfl, S⟩ := hrel
      by_cases hrm : r < m
      · have q0 := S.mem.cell 0 (b := bg) rfl (j := 0) (v := .int .i64 m) rfl
        have r64 : r < 64 := by omega
        have q1 := S.mem.icell 5 (b := bo) rfl (j := r) r64
        have ex : toX m f r = toI f r := if_pos hrm
        cases hf : f r with
        | none =>
          rw [ex, toI_none hf] at q1
          have HF := Lib.hid hf
          clear hf ex
          go_wp2_with fail
          go_roundg (gk - 1)
          case measure => omega
          case rel => exact ⟨r + 1, pv, by omega, by go_num, by rw [pl_none HF.out]; exact S⟩
        | some d =>
          rw [ex, toI_some hf] at q1
          have HF := Lib.hid hf
          have HTX := Lib.hid (ex.trans (toI_some hf))
          have hpl := pl_len f r
          clear hf ex
          go_wp2_with fail
          clear q0 q1
          skip
          have S := S.drew
          refine wp_region_held_drew (S := fun v => Mem w v [(bg, .cells (gv m k A n c) 24 (0, 0)), (b2, .cells (cv none 0 0 none 0 0 none 0 0) 28 (0, 0)), (tb, .cells (tarr m k (wt xs)) 57 (0, 0)), (by_, .cells (iarr 64 Y) 44 (0, 0)), (bz, .cells (iarr 64 Z) 44 (0, 0)), (bo, .cells (iarr 64 (toX m f)) 44 (0, 0)), (sy, .cells (iarr m Y) 3 (0, 0)), (sz, .cells (iarr k Z) 3 (0, 0))]) (by kernel_rfl) (Mem.pre [_, _, _, _, _, _, _, _] S.mem) ?_
          intro hS
          try simp only [Act.put, List.setIfInBounds_toArray, List.set_cons_zero, List.set_cons_succ]
          refine wpAnyH_take (i := 0) (oi := { dst := some 55, op := Op.fieldAddr 28 (Operand.tmp 9) 0, type := 0, pos := "assign.go:190", after := #[], guard := none }) (v := .pointer (some ⟨bc, 0, none⟩)) rfl (by kernel_rfl) (by kernel_rfl) (by kernel_rfl) (fun _ _ _ h => h) (Or.inl ⟨by rfl, ?_⟩) (by assumption) ?_
          · intro z hz
            go_simp
          try simp only [Act.put, List.setIfInBounds_toArray, List.set_cons_zero, List.set_cons_succ]
          refine wpAnyH_take (i := 2) (oi := { dst := some 57, op := Op.move (Operand.tmp 10), type := 3, pos := "assign.go:190", after := #[], guard := none }) (v := .int .i64 r) rfl (by kernel_rfl) (by kernel_rfl) (by kernel_rfl) (fun _ _ _ h => h) (Or.inl ⟨by rfl, ?_⟩) (by assumption) ?_
          · intro z hz
            go_simp
          try simp only [Act.put, List.setIfInBounds_toArray, List.set_cons_zero, List.set_cons_succ]
          refine wpAnyH_take (i := 3) (oi := { dst := some 58, op := Op.move (Operand.tmp 10), type := 3, pos := "assign.go:190", after := #[], guard := none }) (v := .int .i64 r) rfl (by kernel_rfl) (by kernel_rfl) (by kernel_rfl) (fun _ _ _ h => h) (Or.inl ⟨by rfl, ?_⟩) (by assumption) ?_
          · intro z hz
            go_simp
          try simp only [Act.put, List.setIfInBounds_toArray, List.set_cons_zero, List.set_cons_succ]
          refine wpAnyH_take (i := 4) (oi := { dst := some 59, op := Op.indexAddr 44 (Operand.tmp 8) (Operand.tmp 58), type := 0, pos := "assign.go:190", after := #[{ on := 3, ground := Ground.data }], guard := none }) (v := .pointer (some ⟨bo, r, none⟩)) rfl (by kernel_rfl) (by kernel_rfl) (by kernel_rfl) (fun _ _ _ h => h) (Or.inl ⟨by rfl, ?_⟩) (by assumption) ?_
          · intro z hz
            have q : ¬ (64 : Int) ≤ (r : Int) := by omega
            go_simp
          try simp only [Act.put, List.setIfInBounds_toArray, List.set_cons_zero, List.set_cons_succ]
          refine wpAnyH_take (i := 5) (oi := { dst := some 60, op := Op.load 3 (Operand.tmp 59), type := 3, pos := "assign.go:190", after := #[{ on := 4, ground := Ground.data }], guard := none }) (v := .int .i64 d) rfl (by kernel_rfl) (by kernel_rfl) (by kernel_rfl) (fun _ _ _ h => h) (Or.inl ⟨by rfl, ?_⟩) (by assumption) ?_
          · intro z hz
            have q := hz.icell 5 (b := bo) rfl (j := r) r64
            rw [HTX.out] at q
            go_simp
          try simp only [Act.put, List.setIfInBounds_toArray, List.set_cons_zero, List.set_cons_succ]
          refine wpAnyH_take (i := 6) (oi := { dst := some 61, op := Op.build 50 #[(0, Operand.tmp 57), (1, Operand.tmp 60)], type := 50, pos := "assign.go:190", after := #[{ on := 2, ground := Ground.data }, { on := 5, ground := Ground.data }], guard := none }) (v := .agg #[.int .i64 r, .int .i64 d]) rfl (by kernel_rfl) (by kernel_rfl) (by kernel_rfl) (fun _ _ _ h => h) (Or.inl ⟨by rfl, ?_⟩) (by assumption) ?_
          · intro z hz
            go_simp
          try simp only [Act.put, List.setIfInBounds_toArray, List.set_cons_zero, List.set_cons_succ]
          refine wpAnyH_ready (rs := [1, 7]) (by kernel_rfl) (by simp) ?_
          refine (AllReadyH.cons (o := { dst := some 56, op := Op.load 26 (Operand.tmp 55), type := 26, pos := "assign.go:190", after := #[{ on := 0, ground := Ground.data }], guard := none }) rfl (fun K hK => ?_) (AllReadyH.cons (o := { dst := some 62, op := Op.buildSlice 26 1 #[(0, Operand.tmp 61)], type := 26, pos := "assign.go:190", after := #[{ on := 6, ground := Ground.data }], guard := none }) rfl (fun K hK => ?_) AllReadyH.nil))
          · rw [if_pos (by rfl)]
            refine wp_loadcell 26 _ (by rfl) bc 0 (by rfl) pv (S.mem.cell 8 (b := bc) rfl (j := 0) (v := pv) rfl) (run_load1 Try.underlying26 rfl (S.mem.cell 8 (b := bc) rfl (j := 0) (v := pv) rfl)) ?_
            refine hK.out _ _ (hS) ?_
            clear hK K
            intro hS
            try simp only [Act.put, List.setIfInBounds_toArray, List.set_cons_zero, List.set_cons_succ]
            refine wpAnyH_ready (rs := [7]) (by kernel_rfl) (by simp) ?_
            refine (AllReadyH.cons (o := { dst := some 62, op := Op.buildSlice 26 1 #[(0, Operand.tmp 61)], type := 26, pos := "assign.go:190", after := #[{ on := 6, ground := Ground.data }], guard := none }) rfl (fun K hK => ?_) AllReadyH.nil)
            rw [if_pos (by rfl)]
            refine wp_lit1 26 50 _ (by rfl) (.agg #[.int .i64 r, .int .i64 d]) (by rfl) #[.int .i64 r, .int .i64 d] i5 (.agg #[.int .i64 0, .int .i64 0]) 2 Try.underlying26 hp hp0 hp1 (by decide) (by decide) (fill_pair _ _) ?_
            refine hK.out _ _ (hS.up ((Below.refl _ _).alloc (Nat.le_refl _) _)) ?_
            clear hK K
            intro hS
            try simp only [Act.put, List.setIfInBounds_toArray, List.set_cons_zero, List.set_cons_succ]
            refine wpAnyH_ready (rs := [8]) (by kernel_rfl) (by simp) ?_
            refine (AllReadyH.cons (o := { dst := some 63, op := Op.call { callee := Callee.builtin Builtin.append, args := #[Operand.tmp 56, Operand.tmp 62], argTypes := #[26, 26] }, type := 26, pos := "assign.go:190", after := #[{ on := 1, ground := Ground.data }, { on := 7, ground := Ground.data }], guard := none }) rfl (fun K hK => ?_) AllReadyH.nil)
            rw [if_pos (by rfl)]
            refine wp_pushM (.tmp 56) (.tmp 62) 26 (by rfl) i5 (.agg #[.int .i64 0, .int .i64 0]) 16 Try.underlying26 hp hp0 hp1 hp2 rfl (by decide) S (by rfl) #[.int .i64 r, .int .i64 d] (by rfl) rfl (pair_one _ _) (by omega) (by decide) ?_
            intro g cap W3 S3
            clear hS
            refine hK.out _ _ (Mem.pre [_, _, _, _, _, _, _, _] S3.mem) ?_
            clear hK K
            intro hS
            try simp only [Act.put, List.setIfInBounds_toArray, List.set_cons_zero, List.set_cons_succ]
            refine wpAnyH_take (i := 9) (oi := { dst := some 64, op := Op.fieldAddr 28 (Operand.tmp 9) 0, type := 0, pos := "assign.go:190", after := #[{ on := 0, ground := Ground.phase }, { on := 1, ground := Ground.phase }, { on := 2, ground := Ground.phase }, { on := 3, ground := Ground.phase }, { on := 4, ground := Ground.phase }, { on := 5, ground := Ground.phase }, { on := 6, ground := Ground.phase }, { on := 7, ground := Ground.phase }, { on := 8, ground := Ground.phase }], guard := none }) (v := .pointer (some ⟨bc, 0, none⟩)) rfl (by kernel_rfl) (by kernel_rfl) (by kernel_rfl) (fun _ _ _ h => h) (Or.inl ⟨by rfl, ?_⟩) (by assumption) ?_
            · intro z hz
              go_simp
            try simp only [Act.put, List.setIfInBounds_toArray, List.set_cons_zero, List.set_cons_succ]
            refine wpAnyH_ready (rs := [10]) (by kernel_rfl) (by simp) ?_
            refine (AllReadyH.cons (o := { dst := none, op := Op.store 26 (Operand.tmp 64) (Operand.tmp 63), type := 0, pos := "assign.go:190", after := #[{ on := 9, ground := Ground.data }, { on := 8, ground := Ground.data }, { on := 8, ground := Ground.chain }, { on := 0, ground := Ground.phase }, { on := 1, ground := Ground.phase }, { on := 2, ground := Ground.phase }, { on := 3, ground := Ground.phase }, { on := 4, ground := Ground.phase }, { on := 5, ground := Ground.phase }, { on := 6, ground := Ground.phase }, { on := 7, ground := Ground.phase }, { on := 8, ground := Ground.phase }], guard := none }) rfl (fun K hK => ?_) AllReadyH.nil)
            rw [if_pos (by rfl)]
            refine wp_store1 26 _ _ (by rfl) bc 0 (by rfl) (.slice (some ⟨g, 0, none⟩) ((pl f r).length + 1) cap) (by rfl) (S3.mem.at 8 rfl) (by exact Nat.zero_lt_succ _) size26 rfl rfl ?_
            refine hK.out _ _ (Mem.pre [_, _, _, _, _, _, _, _] (S3.mem.set 8 rfl _)) ?_
            clear hK K
            intro hS
            try simp only [Act.put, List.setIfInBounds_toArray, List.set_cons_zero, List.set_cons_succ]
            refine wpAnyH_done (by kernel_rfl) ?_ _
            have S4 := S3.set 8 rfl (#[.slice (some ⟨g, 0, none⟩) ((pl f r).length + 1) cap, .slice (some ⟨sy, 0, none⟩) m m, .slice (some ⟨sz, 0, none⟩) k k])
            clear S3 hS
            go_wp2_with fail
            go_roundg (gk - 1)
            case measure => omega
            case rel => exact ⟨r + 1, _, by omega, by go_num, by rw [pl_some HF.out, List.flatMap_append, List.length_append]; exact S4⟩
          · rw [if_pos (by rfl)]
            refine wp_lit1 26 50 _ (by rfl) (.agg #[.int .i64 r, .int .i64 d]) (by rfl) #[.int .i64 r, .int .i64 d] i5 (.agg #[.int .i64 0, .int .i64 0]) 2 Try.underlying26 hp hp0 hp1 (by decide) (by decide) (fill_pair _ _) ?_
            refine hK.out _ _ (hS.up ((Below.refl _ _).alloc (Nat.le_refl _) _)) ?_
            clear hK K
            intro hS
            try simp only [Act.put, List.setIfInBounds_toArray, List.set_cons_zero, List.set_cons_succ]
            refine wpAnyH_ready (rs := [1]) (by kernel_rfl) (by simp) ?_
            refine (AllReadyH.cons (o := { dst := some 56, op := Op.load 26 (Operand.tmp 55), type := 26, pos := "assign.go:190", after := #[{ on := 0, ground := Ground.data }], guard := none }) rfl (fun K hK => ?_) AllReadyH.nil)
            rw [if_pos (by rfl)]
            refine wp_loadcell 26 _ (by rfl) bc 0 (by rfl) pv ((S.mem.up ((Below.refl _ _).alloc (Nat.le_refl _) _)).cell 8 (b := bc) rfl (j := 0) (v := pv) rfl) (run_load1 Try.underlying26 rfl ((S.mem.up ((Below.refl _ _).alloc (Nat.le_refl _) _)).cell 8 (b := bc) rfl (j := 0) (v := pv) rfl)) ?_
            refine hK.out _ _ (hS) ?_
            clear hK K
            intro hS
            try simp only [Act.put, List.setIfInBounds_toArray, List.set_cons_zero, List.set_cons_succ]
            refine wpAnyH_ready (rs := [8]) (by kernel_rfl) (by simp) ?_
            refine (AllReadyH.cons (o := { dst := some 63, op := Op.call { callee := Callee.builtin Builtin.append, args := #[Operand.tmp 56, Operand.tmp 62], argTypes := #[26, 26] }, type := 26, pos := "assign.go:190", after := #[{ on := 1, ground := Ground.data }, { on := 7, ground := Ground.data }], guard := none }) rfl (fun K hK => ?_) AllReadyH.nil)
            rw [if_pos (by rfl)]
            refine wp_pushM (.tmp 56) (.tmp 62) 26 (by rfl) i5 (.agg #[.int .i64 0, .int .i64 0]) 16 Try.underlying26 hp hp0 hp1 hp2 rfl (by decide) S (by rfl) #[.int .i64 r, .int .i64 d] (by rfl) rfl (pair_one _ _) (by omega) (by decide) ?_
            intro g cap W3 S3
            clear hS
            refine hK.out _ _ (Mem.pre [_, _, _, _, _, _, _, _] S3.mem) ?_
            clear hK K
            intro hS
            try simp only [Act.put, List.setIfInBounds_toArray, List.set_cons_zero, List.set_cons_succ]
            refine wpAnyH_take (i := 9) (oi := { dst := some 64, op := Op.fieldAddr 28 (Operand.tmp 9) 0, type := 0, pos := "assign.go:190", after := #[{ on := 0, ground := Ground.phase }, { on := 1, ground := Ground.phase }, { on := 2, ground := Ground.phase }, { on := 3, ground := Ground.phase }, { on := 4, ground := Ground.phase }, { on := 5, ground := Ground.phase }, { on := 6, ground := Ground.phase }, { on := 7, ground := Ground.phase }, { on := 8, ground := Ground.phase }], guard := none }) (v := .pointer (some ⟨bc, 0, none⟩)) rfl (by kernel_rfl) (by kernel_rfl) (by kernel_rfl) (fun _ _ _ h => h) (Or.inl ⟨by rfl, ?_⟩) (by assumption) ?_
            · intro z hz
              go_simp
            try simp only [Act.put, List.setIfInBounds_toArray, List.set_cons_zero, List.set_cons_succ]
            refine wpAnyH_ready (rs := [10]) (by kernel_rfl) (by simp) ?_
            refine (AllReadyH.cons (o := { dst := none, op := Op.store 26 (Operand.tmp 64) (Operand.tmp 63), type := 0, pos := "assign.go:190", after := #[{ on := 9, ground := Ground.data }, { on := 8, ground := Ground.data }, { on := 8, ground := Ground.chain }, { on := 0, ground := Ground.phase }, { on := 1, ground := Ground.phase }, { on := 2, ground := Ground.phase }, { on := 3, ground := Ground.phase }, { on := 4, ground := Ground.phase }, { on := 5, ground := Ground.phase }, { on := 6, ground := Ground.phase }, { on := 7, ground := Ground.phase }, { on := 8, ground := Ground.phase }], guard := none }) rfl (fun K hK => ?_) AllReadyH.nil)
            rw [if_pos (by rfl)]
            refine wp_store1 26 _ _ (by rfl) bc 0 (by rfl) (.slice (some ⟨g, 0, none⟩) ((pl f r).length + 1) cap) (by rfl) (S3.mem.at 8 rfl) (by exact Nat.zero_lt_succ _) size26 rfl rfl ?_
            refine hK.out _ _ (Mem.pre [_, _, _, _, _, _, _, _] (S3.mem.set 8 rfl _)) ?_
            clear hK K
            intro hS
            try simp only [Act.put, List.setIfInBounds_toArray, List.set_cons_zero, List.set_cons_succ]
            refine wpAnyH_done (by kernel_rfl) ?_ _
            have S4 := S3.set 8 rfl (#[.slice (some ⟨g, 0, none⟩) ((pl f r).length + 1) cap, .slice (some ⟨sy, 0, none⟩) m m, .slice (some ⟨sz, 0, none⟩) k k])
            clear S3 hS
            go_wp2_with fail
            go_roundg (gk - 1)
            case measure => omega
            case rel => exact ⟨r + 1, _, by omega, by go_num, by rw [pl_some HF.out, List.flatMap_append, List.length_append]; exact S4⟩
      · obtain rfl : r = m := by omega
        clear hr hrm
        have q0 := S.mem.cell 0 (b := bg) rfl (j := 0) (v := .int .i64 r) rfl
        obtain ⟨A1, c1, rfl, _, _⟩ := rd_of_own (cells := Pr.cells) (fun _ => rfl) S.own rfl
        go_wp2_with (first
          | (refine wpList_getrow rfl 28 _ (by rfl) bc (by rfl) S.mem 8 (by rfl) _ Try.underlying28 rfl (by exact size28) ?_)
          | (refine wpList_storerow rfl 28 _ _ (by rfl) b2 (by rfl) (cv none 0 0 none 0 0 none 0 0) (cv A1 (pl f r).length c1 (some ⟨sy, 0, none⟩) r r (some ⟨sz, 0, none⟩) k k) (by rfl) (S.mem.at 1 rfl) (by exact size28) rfl (three_one _ _ _ rfl rfl rfl) ?_)
          | fail)
        have S9 := S.set 1 rfl (cv A1 (pl f r).length c1 (some ⟨sy, 0, none⟩) r r (some ⟨sz, 0, none⟩) k k)
        clear S q0
        generalize wr.setRow b2 (cv A1 (pl f r).length c1 (some ⟨sy, 0, none⟩) r r (some ⟨sz, 0, none⟩) k k) = w20 at *
        try simp only [Exit.inBlock, Exit.then]
        refine bodyPost_ret (results_ct (a := 2) (c := 3) (t := 28) rfl (by rfl) (by rfl) (S9.mem.at 1 rfl) Try.underlying28 rfl (by exact size28)) rfl ?_
        obtain ⟨A2, c2, e2, _, hRd⟩ := rd_of_own (cells := Pr.cells) (fun _ => rfl) S9.own rfl
        injection e2 with e3 _ e4
        subst e3
        exact ⟨f, Y, Z, _, _, sy, sz, rfl, S9.mem.below, hRd, S9.mem.at 6 rfl, S9.mem.at 7 rfl, HDN.out.mat, HL.out.of HM.out HDN.out.mat (HDN.out.comp HL.out.dual)⟩
end Go.Proofs.Ytikjelkehcnjmaa
