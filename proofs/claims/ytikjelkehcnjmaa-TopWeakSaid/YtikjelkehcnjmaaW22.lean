/- Top: wider, walked: a graph with a column more. -/
import Derived.Test.YtikjelkehcnjmaaM11
namespace Go.Proofs.Ytikjelkehcnjmaa
open Go.RowKit
set_option linter.unusedVariables false
set_option linter.unusedSimpArgs false
theorem fill_three (a b c : Int) : Instr.fill (fun i => some (i * 3, 3)) ((Array.range (1 * 3)).map ((Value.agg #[.int .i64 0, .int .i64 0, .int .i64 0]).cells[· % (Value.agg #[.int .i64 0, .int .i64 0, .int .i64 0]).cells.size]!)) [(0, .agg #[.int .i64 a, .int .i64 b, .int .i64 c])] = some #[.int .i64 a, .int .i64 b, .int .i64 c] := by kernel_rfl
theorem info52 : (Try.prog.info? 52).map (fun i => (i.zero, i.size, i.bytes)) = some (some (.agg #[.int .i64 0, .int .i64 0, .int .i64 0]), 3, 24) := by kernel_rfl
theorem zero24 : (Try.prog.info? 24).map (fun i => (i.zero, i.size)) = some (some (.agg (gv 0 0 none 0 0)), 3) := by kernel_rfl
theorem built24 (a b : Int) : Try.prog.built 24 [(0, .int .i64 a), (1, .int .i64 b)] = some (gv a b none 0 0) := by kernel_rfl
theorem wpList_lit1 {P : Program} {ops : Array Oper} {rest : List Oper} {o : Oper} {a : Act} {w : World} {Q : Exit → Act → World → Prop} (hgd : o.guard = none) (t e : TypeId) (x : Operand) (ho : o.op = .buildSlice t 1 #[(0, x)]) (v : Value) (hx : a.eval x = v) (cells : Array Value) (ie : TypeInfo) (z : Value) (size : Nat) (hu : P.underlying t = some (.slice e)) (hie : P.info? e = some ie) (hz : ie.zero = some z) (hs : ie.size = size) (h0 : 0 < size) (hb : size ≤ 1024)
    (hf : Instr.fill (fun i => some (i * size, size)) ((Array.range (1 * size)).map (z.cells[· % z.cells.size]!)) [(0, v)] = some cells)
    (h : wpList P ops Q rest (a.put o.dst (.slice (some ⟨w.heap.size, 0, none⟩) 1 1)) (w.alloc (.cells cells e))) : wpList P ops Q (o :: rest) a w :=
  wpList_plain hgd fun _ hK => wp_lit1 t e x ho v hx cells ie z size hu hie hz hs h0 hb hf (hK _ _ h)
def WidePost (m k : Nat) (xs : List Ed) (w : World) (e : Ending) (w' : World) : Prop :=
  ∃ (A : Option Addr) (n c : Nat) (L : List Ed), e = .returned (.agg (gv m (k + 1 : Nat) A n c)) ∧ Below w.heap.size w w' ∧ Rd Ed.cells 3 w' w'.heap.size A n L ∧ n ≤ 9223372036854775807 ∧ Gr m ((k + 1 : Nat) : Int) L ∧ ∀ r c, c < k → wt L r c = wt xs r c
set_option maxRecDepth 20000 in
set_option maxHeartbeats 32000000 in
theorem wider_ok {w : World} {m k : Nat} {A : Option Addr} {n c : Nat} {xs : List Ed} {A2 : Option Addr} {n2 c2 : Nat} {ws : List Int} (hR : Rd Ed.cells 3 w w.heap.size A n xs) (hG : Gr m k xs) (hk : k < 64) (hWs : Rd iint 1 w w.heap.size A2 n2 ws) (wb : ∀ i, -9223372036854775808 ≤ iy ws i ∧ iy ws i ≤ 9223372036854775807) :
    Calls Try.prog 7 #[.agg (gv m k A n c), .slice A2 n2 c2] w (WidePost m k xs w) := by
  have m64 : m ≤ 64 := by have := hG.1; unfold Sz at this; omega
  have n4 : n ≤ 4096 := by rw [← hR.len]; exact hG.len
  have HR := Lib.hid hR
  have HG := Lib.hid hG
  have HL := Lib.hid hR.len
  have HWS := Lib.hid hWs
  have HWL := Lib.hid hWs.len
  have HWB := Lib.hid wb
  clear hR hG hWs wb
  have S0 := mem_zero w
  obtain ⟨i5, hp, hp0, hp1, hp2⟩ := info_parts info52
  go_enter Try.func7, Try.ntmps7
  go_wp2_with (first
    | (refine wpList_boxnew rfl 24 _ (by rfl) _ (by rfl) (gv m k A n c) rfl S0 ?_; intro w1 bg S1; clear S0)
    | (refine wpList_new rfl 24 (by rfl) (gv 0 0 none 0 0) 3 zero24 S1 ?_; intro w2 b4 S2; clear S1; have g0 := S2.cell 0 (b := bg) rfl (j := 0) (v := .int .i64 m) rfl; have g1 := S2.cell 0 (b := bg) rfl (j := 1) (v := .int .i64 k) rfl)
    | (refine wpList_build2 (by rfl) 24 [(0, .tmp 10), (1, .tmp 13)] (by rfl) [(0, .int .i64 m), (1, .int .i64 ((k : Int) + 1))] (by rfl) _ (built24 _ _) ?_)
    | (refine wpList_new rfl 24 (by rfl) (gv 0 0 none 0 0) 3 zero24 S2 ?_; intro w3 bx S3; clear S2 g0 g1)
    | (refine wpList_putrow rfl 24 _ _ (by rfl) bx (by rfl) (gv m ((k : Int) + 1) none 0 0) (by rfl) S3 2 (by rfl) (by exact size24) (by rfl) (gv_one _ _ _ _ _) ?_; intro w4 S4; clear S3)
    | fail)
  have M0 : Mem w w4 [(bg, .cells (gv m k A n c) 24 (0, 0)), (b4, .cells (gv 0 0 none 0 0) 24 (0, 0)), (bx, .cells #[.int .i64 m, .int .i64 (k + 1 : Nat), .slice none 0 0] 24 (0, 0))] := S4
  have S5 := MA.start M0 52 3
  clear S4 M0
  go_loopg [6, 7] m (fun gk v6 v7 wr => ∃ (r kk : Nat) (pv : Value) (L : List Ed), gk + r = m ∧ v7 = .int .i64 r ∧ v6 = .int .i64 kk ∧ WJ m k xs r kk L ∧ MA w wr [(bg, .cells (gv m k A n c) 24 (0, 0)), (b4, .cells (gv 0 0 none 0 0) 24 (0, 0)), (bx, .cells #[.int .i64 m, .int .i64 (k + 1 : Nat), pv] 24 (0, 0))] 52 3 pv L.length (L.flatMap Ed.cells))
  case atStart => exact ⟨0, 0, .slice none 0 0, [], rfl, rfl, rfl, wj_first HG.out, S5⟩
  case round =>
    clear S5
    obtain ⟨r, kk, pv, L, hr, rfl, rfl, J, S⟩ := hrel
    have HJ := Lib.hid J
    have HR1 := Lib.hid hr
    clear J
    have g0 := S.mem.cell 0 (b := bg) rfl (j := 0) (v := .int .i64 m) rfl
    by_cases hrm : r < m
    · clear hr
      go_wp2_with fail
      clear g0
      have hkn0 := HJ.out.kn
      rw [HL.out] at hkn0
      go_loopg [6] (n - kk) (fun gk v6 wr => ∃ (kk : Nat) (pv : Value) (L : List Ed), gk + kk = n ∧ v6 = .int .i64 kk ∧ WJ m k xs r kk L ∧ MA w wr [(bg, .cells (gv m k A n c) 24 (0, 0)), (b4, .cells (gv 0 0 none 0 0) 24 (0, 0)), (bx, .cells #[.int .i64 m, .int .i64 (k + 1 : Nat), pv] 24 (0, 0))] 52 3 pv L.length (L.flatMap Ed.cells))
      case atStart => exact ⟨kk, pv, L, by omega, rfl, HJ.out, S⟩
      case round =>
        clear S HJ hkn0
        obtain ⟨kk, pv, L, hg, rfl, J, S⟩ := hrel
        have HJ := Lib.hid J
        have HGK := Lib.hid hg
        have hlen := J.len
        clear J
        by_cases hkn : kk < n
        · clear hg
          have hx := ed_get (xs := xs) (i := kk) (by rw [HL.out]; exact hkn)
          obtain ⟨ab, ao, rfl, hab, ra⟩ := HR.out.row hx
          clear hx
          obtain ⟨er, ec, ew, hp5⟩ : ∃ er ec ew, ed xs kk = ⟨er, ec, ew⟩ := ⟨_, _, _, rfl⟩
          rw [hp5] at ra
          have x0 : w.cell? ⟨ab, ao + kk * 3, none⟩ = some (.int .i64 er) := ra 0 _ rfl
          have x1 : w.cell? ⟨ab, ao + kk * 3 + 1, none⟩ = some (.int .i64 ec) := ra 1 _ rfl
          have x2 : w.cell? ⟨ab, ao + kk * 3 + 2, none⟩ = some (.int .i64 ew) := ra 2 _ rfl
          have HX := Lib.hid hp5
          clear hp5 ra
          have g2 := S.mem.cell 0 (b := bg) rfl (j := 2) (v := .slice (some ⟨ab, ao, none⟩) n c) rfl
          have y0 : wr.cell? ⟨ab, ao + kk * 3, none⟩ = some (.int .i64 er) := (S.mem.below.cell (p := ⟨ab, _, none⟩) hab).trans x0
          have dk : decide (kk < n) = true := decide_eq_true hkn
          have dk2 : decide ((kk : Int) < (n : Int)) = true := decide_eq_true (by omega)
          by_cases her : er = r
          · subst her
            go_wp2_with fail
            clear g2 y0
            skip
            have S := S.drew
            refine wp_region_held_drew (S := fun v => Mem w v [(bg, .cells (gv m k (some ⟨ab, ao, none⟩) n c) 24 (0, 0)), (b4, .cells (gv 0 0 none 0 0) 24 (0, 0))]) (by kernel_rfl) (Mem.pre [_, _] S.mem) ?_
            intro hS
            try simp only [Act.put, List.setIfInBounds_toArray, List.set_cons_zero, List.set_cons_succ]
            refine wpAnyH_take (i := 0) (oi := { dst := some 36, op := Op.fieldAddr 24 (Operand.tmp 5) 2, type := 0, pos := "top18.go:51", after := #[], guard := none }) (v := .pointer (some ⟨bx, 2, none⟩)) rfl (by kernel_rfl) (by kernel_rfl) (by kernel_rfl) (fun _ _ _ h => h) (Or.inl ⟨by rfl, ?_⟩) (by assumption) ?_
            · intro z hz
              go_simp
            try simp only [Act.put, List.setIfInBounds_toArray, List.set_cons_zero, List.set_cons_succ]
            refine wpAnyH_take (i := 2) (oi := { dst := some 38, op := Op.fieldAddr 24 (Operand.tmp 2) 2, type := 0, pos := "top18.go:51", after := #[], guard := none }) (v := .pointer (some ⟨bg, 2, none⟩)) rfl (by kernel_rfl) (by kernel_rfl) (by kernel_rfl) (fun _ _ _ h => h) (Or.inl ⟨by rfl, ?_⟩) (by assumption) ?_
            · intro z hz
              go_simp
            try simp only [Act.put, List.setIfInBounds_toArray, List.set_cons_zero, List.set_cons_succ]
            refine wpAnyH_take (i := 3) (oi := { dst := some 39, op := Op.load 22 (Operand.tmp 38), type := 22, pos := "top18.go:51", after := #[{ on := 2, ground := Ground.data }], guard := none }) (v := .slice (some ⟨ab, ao, none⟩) n c) rfl (by kernel_rfl) (by kernel_rfl) (by kernel_rfl) (fun _ _ _ h => h) (Or.inl ⟨by rfl, ?_⟩) (by assumption) ?_
            · intro z hz
              have q := hz.cell 0 (b := bg) rfl (j := 2) (v := .slice (some ⟨ab, ao, none⟩) n c) rfl
              go_simp
            try simp only [Act.put, List.setIfInBounds_toArray, List.set_cons_zero, List.set_cons_succ]
            refine wpAnyH_take (i := 4) (oi := { dst := some 40, op := Op.move (Operand.tmp 6), type := 3, pos := "top18.go:51", after := #[], guard := none }) (v := .int .i64 kk) rfl (by kernel_rfl) (by kernel_rfl) (by kernel_rfl) (fun _ _ _ h => h) (Or.inl ⟨by rfl, ?_⟩) (by assumption) ?_
            · intro z hz
              go_simp
            try simp only [Act.put, List.setIfInBounds_toArray, List.set_cons_zero, List.set_cons_succ]
            refine wpAnyH_take (i := 5) (oi := { dst := some 41, op := Op.indexAddr 22 (Operand.tmp 39) (Operand.tmp 40), type := 0, pos := "top18.go:51", after := #[{ on := 3, ground := Ground.data }, { on := 4, ground := Ground.data }], guard := none }) (v := .pointer (some ⟨ab, ao + kk * 3, none⟩)) rfl (by kernel_rfl) (by kernel_rfl) (by kernel_rfl) (fun _ _ _ h => h) (Or.inl ⟨by rfl, ?_⟩) (by assumption) ?_
            · intro z hz
              go_simp
            try simp only [Act.put, List.setIfInBounds_toArray, List.set_cons_zero, List.set_cons_succ]
            refine wpAnyH_take (i := 6) (oi := { dst := some 42, op := Op.load 52 (Operand.tmp 41), type := 52, pos := "top18.go:51", after := #[{ on := 5, ground := Ground.data }], guard := none }) (v := .agg #[.int .i64 r, .int .i64 ec, .int .i64 ew]) rfl (by kernel_rfl) (by kernel_rfl) (by kernel_rfl) (fun _ _ _ h => h) (Or.inl ⟨by rfl, ?_⟩) (by assumption) ?_
            · intro z hz
              have q0 : z.cell? ⟨ab, ao + kk * 3, none⟩ = some (.int .i64 r) := (hz.below.cell (p := ⟨ab, _, none⟩) hab).trans x0
              have q1 : z.cell? ⟨ab, ao + kk * 3 + 1, none⟩ = some (.int .i64 ec) := (hz.below.cell (p := ⟨ab, _, none⟩) hab).trans x1
              have q2 : z.cell? ⟨ab, ao + kk * 3 + 2, none⟩ = some (.int .i64 ew) := (hz.below.cell (p := ⟨ab, _, none⟩) hab).trans x2
              go_simp
            try simp only [Act.put, List.setIfInBounds_toArray, List.set_cons_zero, List.set_cons_succ]
            refine wpAnyH_ready (rs := [1, 7]) (by kernel_rfl) (by simp) ?_
            refine (AllReadyH.cons (o := { dst := some 37, op := Op.load 22 (Operand.tmp 36), type := 22, pos := "top18.go:51", after := #[{ on := 0, ground := Ground.data }], guard := none }) rfl (fun K hK => ?_) (AllReadyH.cons (o := { dst := some 43, op := Op.buildSlice 22 1 #[(0, Operand.tmp 42)], type := 22, pos := "top18.go:51", after := #[{ on := 6, ground := Ground.data }], guard := none }) rfl (fun K hK => ?_) AllReadyH.nil))
            · rw [if_pos (by rfl)]
              refine wp_loadcell 22 _ (by rfl) bx 2 (by rfl) pv (S.mem.cell 2 (b := bx) rfl (j := 2) (v := pv) rfl) (run_load1 Try.underlying22 rfl (S.mem.cell 2 (b := bx) rfl (j := 2) (v := pv) rfl)) ?_
              refine hK.out _ _ (hS) ?_
              clear hK K
              intro hS
              try simp only [Act.put, List.setIfInBounds_toArray, List.set_cons_zero, List.set_cons_succ]
              refine wpAnyH_ready (rs := [7]) (by kernel_rfl) (by simp) ?_
              refine (AllReadyH.cons (o := { dst := some 43, op := Op.buildSlice 22 1 #[(0, Operand.tmp 42)], type := 22, pos := "top18.go:51", after := #[{ on := 6, ground := Ground.data }], guard := none }) rfl (fun K hK => ?_) AllReadyH.nil)
              rw [if_pos (by rfl)]
              refine wp_lit1 22 52 _ (by rfl) (.agg #[.int .i64 r, .int .i64 ec, .int .i64 ew]) (by rfl) #[.int .i64 r, .int .i64 ec, .int .i64 ew] i5 (.agg #[.int .i64 0, .int .i64 0, .int .i64 0]) 3 Try.underlying22 hp hp0 hp1 (by decide) (by decide) (fill_three _ _ _) ?_
              refine hK.out _ _ (hS.up ((Below.refl _ _).alloc (Nat.le_refl _) _)) ?_
              clear hK K
              intro hS
              try simp only [Act.put, List.setIfInBounds_toArray, List.set_cons_zero, List.set_cons_succ]
              refine wpAnyH_ready (rs := [8]) (by kernel_rfl) (by simp) ?_
              refine (AllReadyH.cons (o := { dst := some 44, op := Op.call { callee := Callee.builtin Builtin.append, args := #[Operand.tmp 37, Operand.tmp 43], argTypes := #[22, 22] }, type := 22, pos := "top18.go:51", after := #[{ on := 1, ground := Ground.data }, { on := 7, ground := Ground.data }], guard := none }) rfl (fun K hK => ?_) AllReadyH.nil)
              rw [if_pos (by rfl)]
              refine wp_pushM (.tmp 37) (.tmp 43) 22 (by rfl) i5 (.agg #[.int .i64 0, .int .i64 0, .int .i64 0]) 24 Try.underlying22 hp hp0 hp1 hp2 rfl (by decide) S (by rfl) #[.int .i64 r, .int .i64 ec, .int .i64 ew] (by rfl) rfl (three_one _ _ _ rfl rfl rfl) (by omega) (by decide) ?_
              intro g cap W3 S3
              clear hS
              refine hK.out _ _ (Mem.pre [_, _] S3.mem) ?_
              clear hK K
              intro hS
              try simp only [Act.put, List.setIfInBounds_toArray, List.set_cons_zero, List.set_cons_succ]
              refine wpAnyH_take (i := 9) (oi := { dst := some 45, op := Op.fieldAddr 24 (Operand.tmp 5) 2, type := 0, pos := "top18.go:51", after := #[{ on := 0, ground := Ground.phase }, { on := 1, ground := Ground.phase }, { on := 2, ground := Ground.phase }, { on := 3, ground := Ground.phase }, { on := 4, ground := Ground.phase }, { on := 5, ground := Ground.phase }, { on := 6, ground := Ground.phase }, { on := 7, ground := Ground.phase }, { on := 8, ground := Ground.phase }], guard := none }) (v := .pointer (some ⟨bx, 2, none⟩)) rfl (by kernel_rfl) (by kernel_rfl) (by kernel_rfl) (fun _ _ _ h => h) (Or.inl ⟨by rfl, ?_⟩) (by assumption) ?_
              · intro z hz
                go_simp
              try simp only [Act.put, List.setIfInBounds_toArray, List.set_cons_zero, List.set_cons_succ]
              refine wpAnyH_ready (rs := [10]) (by kernel_rfl) (by simp) ?_
              refine (AllReadyH.cons (o := { dst := none, op := Op.store 22 (Operand.tmp 45) (Operand.tmp 44), type := 0, pos := "top18.go:51", after := #[{ on := 9, ground := Ground.data }, { on := 8, ground := Ground.data }, { on := 8, ground := Ground.chain }, { on := 0, ground := Ground.phase }, { on := 1, ground := Ground.phase }, { on := 2, ground := Ground.phase }, { on := 3, ground := Ground.phase }, { on := 4, ground := Ground.phase }, { on := 5, ground := Ground.phase }, { on := 6, ground := Ground.phase }, { on := 7, ground := Ground.phase }, { on := 8, ground := Ground.phase }], guard := none }) rfl (fun K hK => ?_) AllReadyH.nil)
              rw [if_pos (by rfl)]
              refine wp_store1 22 _ _ (by rfl) bx 2 (by rfl) (.slice (some ⟨g, 0, none⟩) (L.length + 1) cap) (by rfl) (S3.mem.at 2 rfl) (by exact Nat.lt_succ_self 2) size22 rfl rfl ?_
              refine hK.out _ _ (Mem.pre [_, _] (S3.mem.set 2 rfl _)) ?_
              clear hK K
              intro hS
              try simp only [Act.put, List.setIfInBounds_toArray, List.set_cons_zero, List.set_cons_succ]
              refine wpAnyH_done (by kernel_rfl) ?_ _
              have S4 := S3.set 2 rfl (#[.int .i64 m, .int .i64 (k + 1 : Nat), .slice (some ⟨g, 0, none⟩) (L.length + 1) cap])
              clear S3 hS
              go_wp2_with fail
              go_roundg (n - kk - 1)
              case measure => have := HGK.out; omega
              case rel => exact ⟨kk + 1, _, L ++ [⟨r, ec, ew⟩], by omega, by go_num, by (have q := HJ.out.copy HG.out (by rw [HL.out]; exact hkn) (by rw [HX.out]); rw [HX.out] at q; exact q), by rw [List.flatMap_append, List.length_append]; exact S4⟩
            · rw [if_pos (by rfl)]
              refine wp_lit1 22 52 _ (by rfl) (.agg #[.int .i64 r, .int .i64 ec, .int .i64 ew]) (by rfl) #[.int .i64 r, .int .i64 ec, .int .i64 ew] i5 (.agg #[.int .i64 0, .int .i64 0, .int .i64 0]) 3 Try.underlying22 hp hp0 hp1 (by decide) (by decide) (fill_three _ _ _) ?_
              refine hK.out _ _ (hS.up ((Below.refl _ _).alloc (Nat.le_refl _) _)) ?_
              clear hK K
              intro hS
              try simp only [Act.put, List.setIfInBounds_toArray, List.set_cons_zero, List.set_cons_succ]
              refine wpAnyH_ready (rs := [1]) (by kernel_rfl) (by simp) ?_
              refine (AllReadyH.cons (o := { dst := some 37, op := Op.load 22 (Operand.tmp 36), type := 22, pos := "top18.go:51", after := #[{ on := 0, ground := Ground.data }], guard := none }) rfl (fun K hK => ?_) AllReadyH.nil)
              rw [if_pos (by rfl)]
              refine wp_loadcell 22 _ (by rfl) bx 2 (by rfl) pv ((S.mem.up ((Below.refl _ _).alloc (Nat.le_refl _) _)).cell 2 (b := bx) rfl (j := 2) (v := pv) rfl) (run_load1 Try.underlying22 rfl ((S.mem.up ((Below.refl _ _).alloc (Nat.le_refl _) _)).cell 2 (b := bx) rfl (j := 2) (v := pv) rfl)) ?_
              refine hK.out _ _ (hS) ?_
              clear hK K
              intro hS
              try simp only [Act.put, List.setIfInBounds_toArray, List.set_cons_zero, List.set_cons_succ]
              refine wpAnyH_ready (rs := [8]) (by kernel_rfl) (by simp) ?_
              refine (AllReadyH.cons (o := { dst := some 44, op := Op.call { callee := Callee.builtin Builtin.append, args := #[Operand.tmp 37, Operand.tmp 43], argTypes := #[22, 22] }, type := 22, pos := "top18.go:51", after := #[{ on := 1, ground := Ground.data }, { on := 7, ground := Ground.data }], guard := none }) rfl (fun K hK => ?_) AllReadyH.nil)
              rw [if_pos (by rfl)]
              refine wp_pushM (.tmp 37) (.tmp 43) 22 (by rfl) i5 (.agg #[.int .i64 0, .int .i64 0, .int .i64 0]) 24 Try.underlying22 hp hp0 hp1 hp2 rfl (by decide) S (by rfl) #[.int .i64 r, .int .i64 ec, .int .i64 ew] (by rfl) rfl (three_one _ _ _ rfl rfl rfl) (by omega) (by decide) ?_
              intro g cap W3 S3
              clear hS
              refine hK.out _ _ (Mem.pre [_, _] S3.mem) ?_
              clear hK K
              intro hS
              try simp only [Act.put, List.setIfInBounds_toArray, List.set_cons_zero, List.set_cons_succ]
              refine wpAnyH_take (i := 9) (oi := { dst := some 45, op := Op.fieldAddr 24 (Operand.tmp 5) 2, type := 0, pos := "top18.go:51", after := #[{ on := 0, ground := Ground.phase }, { on := 1, ground := Ground.phase }, { on := 2, ground := Ground.phase }, { on := 3, ground := Ground.phase }, { on := 4, ground := Ground.phase }, { on := 5, ground := Ground.phase }, { on := 6, ground := Ground.phase }, { on := 7, ground := Ground.phase }, { on := 8, ground := Ground.phase }], guard := none }) (v := .pointer (some ⟨bx, 2, none⟩)) rfl (by kernel_rfl) (by kernel_rfl) (by kernel_rfl) (fun _ _ _ h => h) (Or.inl ⟨by rfl, ?_⟩) (by assumption) ?_
              · intro z hz
                go_simp
              try simp only [Act.put, List.setIfInBounds_toArray, List.set_cons_zero, List.set_cons_succ]
              refine wpAnyH_ready (rs := [10]) (by kernel_rfl) (by simp) ?_
              refine (AllReadyH.cons (o := { dst := none, op := Op.store 22 (Operand.tmp 45) (Operand.tmp 44), type := 0, pos := "top18.go:51", after := #[{ on := 9, ground := Ground.data }, { on := 8, ground := Ground.data }, { on := 8, ground := Ground.chain }, { on := 0, ground := Ground.phase }, { on := 1, ground := Ground.phase }, { on := 2, ground := Ground.phase }, { on := 3, ground := Ground.phase }, { on := 4, ground := Ground.phase }, { on := 5, ground := Ground.phase }, { on := 6, ground := Ground.phase }, { on := 7, ground := Ground.phase }, { on := 8, ground := Ground.phase }], guard := none }) rfl (fun K hK => ?_) AllReadyH.nil)
              rw [if_pos (by rfl)]
              refine wp_store1 22 _ _ (by rfl) bx 2 (by rfl) (.slice (some ⟨g, 0, none⟩) (L.length + 1) cap) (by rfl) (S3.mem.at 2 rfl) (by exact Nat.lt_succ_self 2) size22 rfl rfl ?_
              refine hK.out _ _ (Mem.pre [_, _] (S3.mem.set 2 rfl _)) ?_
              clear hK K
              intro hS
              try simp only [Act.put, List.setIfInBounds_toArray, List.set_cons_zero, List.set_cons_succ]
              refine wpAnyH_done (by kernel_rfl) ?_ _
              have S4 := S3.set 2 rfl (#[.int .i64 m, .int .i64 (k + 1 : Nat), .slice (some ⟨g, 0, none⟩) (L.length + 1) cap])
              clear S3 hS
              go_wp2_with fail
              go_roundg (n - kk - 1)
              case measure => have := HGK.out; omega
              case rel => exact ⟨kk + 1, _, L ++ [⟨r, ec, ew⟩], by omega, by go_num, by (have q := HJ.out.copy HG.out (by rw [HL.out]; exact hkn) (by rw [HX.out]); rw [HX.out] at q; exact q), by rw [List.flatMap_append, List.length_append]; exact S4⟩
          · have e1 : (er == (r : Int)) = false := beq_false_of_ne her
            have d1 : decide (er = (r : Int)) = false := decide_eq_false her
            have HN := Lib.hid (show kk = xs.length ∨ (ed xs kk).r ≠ r from .inr (by rw [HX.out]; exact her))
            clear her
            go_upto_region 9 with fail
            clear g2 y0 x0 x1 x2
            have hng := HJ.out.next HG.out HN.out
            have HNG := Lib.hid hng
            clear hng
            by_cases hrw : r < n2
            · have dr : decide (r < n2) = true := decide_eq_true hrw
              have dr2 : decide ((r : Int) < (n2 : Int)) = true := decide_eq_true (by omega)
              obtain ⟨wb_, wo, rfl, hwb, qw⟩ := (HWS.out.below S.mem.below).iint (iy_get (ys := ws) (i := r) (by rw [HWL.out]; exact hrw))
              clear hwb
              have wb := HWB.out r
              go_wp2_with fail
              refine (round_ok _ (iy ws r) wb.1 wb.2).mono ?_
              rintro e w5 ⟨rfl, rfl⟩
              have z1 := Int.emod_nonneg (iy ws r) (show (1099513724930 : Int) ≠ 0 by decide)
              have z2 := Int.emod_lt_of_pos (iy ws r) (show (0 : Int) < 1099513724930 by decide)
              generalize iy ws r % 1099513724930 = wv at *
              by_cases hw0 : 0 < wv
              · have S := S
                have q1 := S.mem.cell 2 (b := bx) rfl (j := 2) (v := pv) rfl
                have q2 := S.mem.cell 0 (b := bg) rfl (j := 1) (v := .int .i64 k) rfl
                go_wp2_with (first
                  | (refine wpList_lit1 rfl 22 52 (.tmp 65) (by rfl) (.agg #[.int .i64 r, .int .i64 k, .int .i64 wv]) (by rfl) #[.int .i64 r, .int .i64 k, .int .i64 wv] i5 (.agg #[.int .i64 0, .int .i64 0, .int .i64 0]) 3 Try.underlying22 hp hp0 hp1 (by decide) (by decide) (fill_three _ _ _) ?_)
                  | (at_builtin; refine wpList_pushM rfl (.tmp 60) (.tmp 66) 22 (by rfl) i5 (.agg #[.int .i64 0, .int .i64 0, .int .i64 0]) 24 Try.underlying22 hp hp0 hp1 hp2 rfl (by decide) S (by rfl) #[.int .i64 r, .int .i64 k, .int .i64 wv] (by rfl) rfl (three_one _ _ _ rfl rfl rfl) (by omega) (by decide) ?_; intro g cap w6 S6)
                  | (refine wpList_store1 rfl 22 _ _ (by rfl) bx 2 (by rfl) (.slice (some ⟨g, 0, none⟩) (L.length + 1) cap) (by rfl) (S6.mem.at 2 rfl) (by exact Nat.lt_succ_self 2) size22 rfl rfl ?_)
                  | fail)
                have S7 := S6.set 2 rfl (#[.int .i64 m, .int .i64 (k + 1 : Nat), .slice (some ⟨g, 0, none⟩) (L.length + 1) cap])
                go_roundg (m - r - 1)
                case measure => have := HR1.out; omega
                case rel => exact ⟨r + 1, kk, _, L ++ [⟨r, k, wv⟩], by omega, by go_num, rfl, HJ.out.more HNG.out hrm (by omega) (by omega), by rw [List.flatMap_append, List.length_append]; exact S7⟩
              · go_wp2_with fail
                go_roundg (m - r - 1)
                case measure => have := HR1.out; omega
                case rel => exact ⟨r + 1, kk, pv, L, by omega, by go_num, rfl, HJ.out.skip HNG.out, S⟩
            · have dr : decide (r < n2) = false := decide_eq_false hrw
              have dr2 : decide ((r : Int) < (n2 : Int)) = false := decide_eq_false (by omega)
              go_wp2_with fail
              go_roundg (m - r - 1)
              case measure => have := HR1.out; omega
              case rel => exact ⟨r + 1, kk, pv, L, by omega, by go_num, rfl, HJ.out.skip HNG.out, S⟩
        · obtain rfl : kk = n := by omega
          have dk : decide (kk < kk) = false := decide_eq_false (by omega)
          have dk2 : decide ((kk : Int) < (kk : Int)) = false := decide_eq_false (by omega)
          have g2 := S.mem.cell 0 (b := bg) rfl (j := 2) (v := .slice A kk c) rfl
          have HNG := Lib.hid (HJ.out.next HG.out (.inl HL.out.symm))
          clear hg
          go_upto_region 9 with fail
          clear g2
          by_cases hrw : r < n2
          · have dr : decide (r < n2) = true := decide_eq_true hrw
            have dr2 : decide ((r : Int) < (n2 : Int)) = true := decide_eq_true (by omega)
            obtain ⟨wb_, wo, rfl, hwb, qw⟩ := (HWS.out.below S.mem.below).iint (iy_get (ys := ws) (i := r) (by rw [HWL.out]; exact hrw))
            clear hwb
            have wb := HWB.out r
            go_wp2_with fail
            refine (round_ok _ (iy ws r) wb.1 wb.2).mono ?_
            rintro e w5 ⟨rfl, rfl⟩
            have z1 := Int.emod_nonneg (iy ws r) (show (1099513724930 : Int) ≠ 0 by decide)
            have z2 := Int.emod_lt_of_pos (iy ws r) (show (0 : Int) < 1099513724930 by decide)
            generalize iy ws r % 1099513724930 = wv at *
            by_cases hw0 : 0 < wv
            · have S := S
              have q1 := S.mem.cell 2 (b := bx) rfl (j := 2) (v := pv) rfl
              have q2 := S.mem.cell 0 (b := bg) rfl (j := 1) (v := .int .i64 k) rfl
              go_wp2_with (first
                | (refine wpList_lit1 rfl 22 52 (.tmp 65) (by rfl) (.agg #[.int .i64 r, .int .i64 k, .int .i64 wv]) (by rfl) #[.int .i64 r, .int .i64 k, .int .i64 wv] i5 (.agg #[.int .i64 0, .int .i64 0, .int .i64 0]) 3 Try.underlying22 hp hp0 hp1 (by decide) (by decide) (fill_three _ _ _) ?_)
                | (at_builtin; refine wpList_pushM rfl (.tmp 60) (.tmp 66) 22 (by rfl) i5 (.agg #[.int .i64 0, .int .i64 0, .int .i64 0]) 24 Try.underlying22 hp hp0 hp1 hp2 rfl (by decide) S (by rfl) #[.int .i64 r, .int .i64 k, .int .i64 wv] (by rfl) rfl (three_one _ _ _ rfl rfl rfl) (by omega) (by decide) ?_; intro g cap w6 S6)
                | (refine wpList_store1 rfl 22 _ _ (by rfl) bx 2 (by rfl) (.slice (some ⟨g, 0, none⟩) (L.length + 1) cap) (by rfl) (S6.mem.at 2 rfl) (by exact Nat.lt_succ_self 2) size22 rfl rfl ?_)
                | fail)
              have S7 := S6.set 2 rfl (#[.int .i64 m, .int .i64 (k + 1 : Nat), .slice (some ⟨g, 0, none⟩) (L.length + 1) cap])
              go_roundg (m - r - 1)
              case measure => have := HR1.out; omega
              case rel => exact ⟨r + 1, kk, _, L ++ [⟨r, k, wv⟩], by omega, by go_num, rfl, HJ.out.more HNG.out hrm (by omega) (by omega), by rw [List.flatMap_append, List.length_append]; exact S7⟩
            · go_wp2_with fail
              go_roundg (m - r - 1)
              case measure => have := HR1.out; omega
              case rel => exact ⟨r + 1, kk, pv, L, by omega, by go_num, rfl, HJ.out.skip HNG.out, S⟩
          · have dr : decide (r < n2) = false := decide_eq_false hrw
            have dr2 : decide ((r : Int) < (n2 : Int)) = false := decide_eq_false (by omega)
            go_wp2_with fail
            go_roundg (m - r - 1)
            case measure => have := HR1.out; omega
            case rel => exact ⟨r + 1, kk, pv, L, by omega, by go_num, rfl, HJ.out.skip HNG.out, S⟩
    · obtain rfl : r = m := by omega
      clear hr hrm
      obtain ⟨A1, c1, rfl, _, _⟩ := rd_of_own (cells := Ed.cells) (fun _ => rfl) S.own rfl
      go_wp2_with (first
        | (refine wpList_getrow rfl 24 _ (by rfl) bx (by rfl) S.mem 2 (by rfl) _ Try.underlying24 rfl (by exact size24) ?_)
        | (refine wpList_storerow rfl 24 _ _ (by rfl) b4 (by rfl) (gv 0 0 none 0 0) (gv r (k + 1 : Nat) A1 L.length c1) (by rfl) (S.mem.at 1 rfl) (by exact size24) rfl (gv_one _ _ _ _ _) ?_)
        | fail)
      have S9 := S.set 1 rfl (gv r (k + 1 : Nat) A1 L.length c1)
      clear S g0
      generalize wr.setRow b4 (gv r (k + 1 : Nat) A1 L.length c1) = w20 at *
      try simp only [Exit.inBlock, Exit.then]
      refine bodyPost_ret (v := .agg (gv r (k + 1 : Nat) A1 L.length c1)) (results1 (a := 4) (t := 24) rfl (by rfl) (S9.mem.at 1 rfl) Try.underlying24 rfl (by exact size24)) rfl ?_
      obtain ⟨A3, c3, e2, _, hRd⟩ := rd_of_own (cells := Ed.cells) (fun _ => rfl) S9.own rfl
      injection e2 with e3 _ e4
      subst e3
      obtain ⟨q1, q2⟩ := HJ.out.end_ HG.out hk
      have q3 := q1.len
      exact ⟨A1, L.length, c1, L, rfl, S9.mem.below, hRd, by omega, q1, q2⟩
end Go.Proofs.Ytikjelkehcnjmaa
