/- Slab: Len, Room, has and the law's step, of none and of one that nobody made. -/
import Derived.Test.YtpnegofmebfcgaaY1
import Derived.Test.YtpnegofmebfcgaaT1
namespace Go.Proofs.Ytpnegofmebfcgaa
open Go.RowKit Go.Shelf
attribute [local go_sem] BW.cell BW.frozen Oper.semAt_some
set_option linter.unusedVariables false
set_option linter.unusedSimpArgs false

theorem all_void_stops {α : Type} (F : Fence) (n : Nat) (hf : F.fn 48) (hro : F.round = none) (hn : 1 ≤ n) (Bs : Nat) (p : Option Addr) (w : World) (hB : Bs < w.heap.size) (hBs : w.cell? ⟨Bs, 0, none⟩ = some (.pointer p)) (hp : Vd w p)
    (encs : α → Array Value) (Kp : World → World → Prop) (S Sp : List α → Prop) (NN : Nat) (hS : S []) :
    SeqStopsK F n Try.prog 48 #[.pointer (some ⟨Bs, 0, none⟩)] encs Kp S Sp NN w :=
  fun lp J Jx W hW hJ _ hY h0 => (all_void_in F n hf hro hn lp Bs p W ((hW.cell (p := ⟨Bs, 0, none⟩) hB).trans hBs) (hp.below hW)).mono fun e W' ⟨hv, hw⟩ => ⟨hv, .inl ⟨[], hS, hw ▸ h0⟩⟩

set_option maxRecDepth 100000 in
set_option maxHeartbeats 4000000 in
theorem len_void_in (F : Fence) (n : Nat) (h3 : F.fn 24) (h5 : F.fn 27) (h6 : F.fn 48) (hro : F.round = none) (hn : 3 ≤ n) (p : Option Addr) (w : World) (hp : Vd w p) :
    CallsIn F n Try.prog 24 #[.pointer p] w fun e W' => e = .returned (.int .i64 0) ∧ Below w.heap.size w W' := by
  have h1 : 1 ≤ n := by omega
  have HP := Lib.hid hp
  clear hp
  refine callsIn_of_wp_marks Try.func24 rfl h3 ?_ hro
  simp only [Try.ntmps24, List.size_toArray, List.length_cons, List.length_nil, Nat.reduceAdd, Nat.reduceSub, Array.replicate_succ, Array.replicate_zero, List.push_toArray, List.append_toArray, List.nil_append, List.cons_append]
  gi_wp2_with (gi_at_call 27; refine (allof_in F (n - 1) h5 hro _ _).mono ?_; rintro e w' ⟨rfl, rfl⟩)
  have hb : ((w.alloc (.cells #[.int .i64 0] 3)).alloc (.cells #[.pointer p] 53)).cell? ⟨w.heap.size + 1, 0, none⟩ = some (.pointer p) := by simp [go_sem]
  have hB0 : Below w.heap.size w ((w.alloc (.cells #[.int .i64 0] 3)).alloc (.cells #[.pointer p] 53)) := ((Below.refl _ w).alloc (Nat.le_refl _) _).alloc (by simp) _
  refine wpIn_rangeFunc_ownF hro h1 (gf := 48) (lb := #[.pointer (some ⟨w.heap.size + 1, 0, none⟩)]) rfl h6 (enters_of Try.func48 (by kernel_rfl) rfl)
    (all_void_stops F (n - 1) h6 hro (by omega) (w.heap.size + 1) p _ (by simp) hb (HP.out.below hB0) (fun x : SL => #[.agg #[.int .i64 x.slot, .int .i64 x.gen], x.x]) (KT 111 0) (fun ys => ys = []) (fun _ => False) 0 rfl) KT.trans (KT.putObj (w := ((w.alloc (.cells #[.int .i64 0] 3)).alloc (.cells #[.pointer p] 53)))) (Below.refl _ _) (fun _ => rfl)
    (fun pre W => W.cell? ⟨w.heap.size, 0, none⟩ = some (.int .i64 (pre.length : Int)) ∧ Below w.heap.size w W)
    (fun _ _ _ => False)
    (OwnFrom.and (fun s A B row hs hg hr => cell_kept hs hg (fun r e => (hr r e).2)) (ownFrom_below (Nat.le_refl _) (by simp; omega)))
    (fun _ _ _ _ _ hs _ _ => hs)
    ⟨by simp [go_sem], hB0⟩
    (fun x => { tmps := #[.pointer p, undef, .int .i64 0, .pointer (some ⟨w.heap.size, 0, none⟩), .pointer p, .func (.func 48) #[] #[.pointer (some ⟨w.heap.size + 1, 0, none⟩)], .agg #[.int .i64 x.slot, .int .i64 x.gen], x.x, undef, undef, undef], defers := [] }) ?assign ?body ?done ?stop
  case assign =>
    intro l x W K hK
    gi_wp2
    simpa using hK
  case body =>
    rintro lp pre x W _ hlt
    exact absurd hlt (Nat.not_lt_zero _)
  case done =>
    rintro D ys W hD rfl ⟨hc, hB⟩ hK
    gi_wp2
    refine ⟨by simp, .inl ⟨_, _, rfl, run_takeDeferred hK, ?_⟩⟩
    exact ⟨_, results_tmp rfl _ _ _, rfl, hB.trans (belowK_b (w := w) (Nat.le_refl _) W D _ _ (by simp at hD; omega) hK rfl rfl)⟩
  case stop =>
    rintro D c pre W _ h _ _
    exact h.elim
theorem len_void (p : Option Addr) (w : World) (hp : Vd w p) : Calls Try.prog 24 #[.pointer p] w (Gives (.int .i64 0) w) := by
  refine (callsIn_wide (n := 3)).1 ?_
  exact (len_void_in _ 3 trivial trivial trivial rfl (Nat.le_refl _) p w hp).mono fun e w' ⟨he, hb⟩ => ⟨he, ⟨w', hb⟩, rfl⟩
set_option maxHeartbeats 2000000 in
theorem room_void (p : Option Addr) (w : World) (hp : Vd w p) : Calls Try.prog 25 #[.pointer p] w (Gives (.int .i64 0) w) := by
  have HP := Lib.hid hp
  rcases hp with rfl | ⟨q, rfl, hp⟩
  · go_enter Try.func25, Try.ntmps25
    go_wp2
    go_ret
    exact gives_of_eq rfl (Below.refl _ w)
  · have hpl := World.block_lt_of_cell? w _ hp
    simp only at hpl
    go_enter Try.func25, Try.ntmps25
    go_wp2_with fail
    refine wp_region_bw w.heap.size _ (Below.refl _ _) (by kernel_rfl) (by kernel_rfl) ?_
    repeat (go_big_quiet_step ((go_at_call 24; exact Calls.bw_of (by simp) (len_void _ _ (HP.out.below (BW.h _))))))
    refine wpQuiet_nil ?_
    intro x
    go_wp2
    go_ret
    exact gives_of_eq rfl x.h
theorem has_void {p : Option Addr} {b0 : Nat} {w : World} {v : Value} (hp : Vd w p) (hv : w.ownsRow b0 82 4 v 0 (hvs [])) : Calls Try.prog 26 #[.pointer p, v] w (Gives (.bool true) w) := by
  obtain ⟨A, c, rfl, hrd⟩ := own_rd (L := []) hv
  exact has_nil p 0 [] w (fun W => Vd W p ∧ w.heap.size ≤ W.heap.size) ⟨hp, Nat.le_refl _⟩ (fun W W' h hb => ⟨by
    rcases h.1 with h1 | ⟨b, h1, hc⟩
    · exact .inl h1
    · have hbl : b < w.heap.size := by
        rcases hp with h2 | ⟨b2, h2, hc2⟩
        · rw [h2] at h1; cases h1
        · rw [h2] at h1; cases h1
          exact World.block_lt_of_cell? w _ hc2
      exact .inr ⟨b, h1, (hb.cell (p := ⟨b, 0, none⟩) hbl).trans hc⟩, Nat.le_trans h.2 hb.size⟩) 0
    (fun n Bs W h1 hW hB hBs => all_void_stops Fence.wide n trivial rfl h1 Bs p W hB hBs hW.1 _ _ _ _ 0 rfl)
    (fun W hW => len_void p W hW.1) A 0 c [] hrd rfl (by decide) (fun i s e hs => by simp at hs) rfl

section
variable (B bm o : Nat) (v : Value) (op : OpV) (A7 : Option Addr) (n7 c7 : Nat) (told : List (Int × Int)) (w : World) (p : Option Addr)
  (hV : Vd w p) (hR : RefAt B w bm o v 0 []) (ht : Rd hcell 2 w w.heap.size A7 n7 told) (h7 : n7 ≤ 9223372036854775807)
include hV hR ht h7

set_option maxRecDepth 50000 in
set_option maxHeartbeats 32000000 in
theorem step_void : Calls Try.prog 22 #[.pointer p, .pointer (some ⟨bm, o, none⟩), .agg #[.int .i64 op.who, .int .i64 op.kind, .int .i64 op.n, .int .i64 op.hs, .int .i64 op.hg, .string op.x], .slice A7 n7 c7, .bool false] w (fun r w' => ∃ (hs hg : Int), r = .returned (.tuple #[.agg #[.int .i64 hs, .int .i64 hg], .bool true]) ∧ Below w.heap.size w w' ∧ (rnd op.kind 5 = 0 → hg = 0)) := by
  have hk5 := rnd_in op.kind 5 (by decide)
  have K5 := round_ok op.kind 5
  obtain ⟨R, hR5⟩ : ∃ R : Nat, rnd op.kind 5 = R := ⟨(rnd op.kind 5).toNat, by omega⟩
  rw [hR5] at hk5 K5 ⊢
  clear hR5
  have hlm := hR.lm
  have HT := Lib.hid ht
  have HV := Lib.hid hV
  have HR := Lib.hid hR
  have hR4 : R < 5 := by omega
  clear ht hV hR hk5
  obtain ⟨who, kind, nn, hs, hg, x⟩ := op
  simp only at K5 ⊢
  have K5 := Lib.hid K5
  by_cases hN : 0 ≤ nn ∧ nn < (n7 : Int)
  · obtain ⟨q, rfl⟩ : ∃ q : Nat, nn = q := ⟨nn.toNat, by omega⟩
    have hq : q < n7 := by omega
    obtain ⟨bb, off, rfl, hbb, hat⟩ := HT.out.at_ (by omega)
    obtain ⟨pp, hpp⟩ : ∃ pp, told[q]? = some pp := ⟨_, List.getElem?_eq_getElem (by rw [HT.out.len]; exact hq)⟩
    have a0 := hat q pp hpp 0 _ rfl; have a1 := hat q pp hpp 1 _ rfl
    rw [Nat.add_zero] at a0
    clear hat hN
    have t1 : decide (0 ≤ (q : Int)) = true := decide_eq_true (by omega)
    have t2 : decide ((q : Int) < (n7 : Int)) = true := decide_eq_true (by omega)
    have t3 : decide (q < n7) = true := decide_eq_true hq
    have bX : Below w.heap.size w (((w.alloc (.cells #[.int .i64 who, .int .i64 kind, .int .i64 (q : Int), .int .i64 hs, .int .i64 hg, .string x] 67)).alloc (.cells #[.int .i64 0, .int .i64 0] 32)).alloc (.cells #[.int .i64 hs, .int .i64 hg] 32)) := (((Below.refl _ w).alloc (Nat.le_refl _) _).alloc (by simp) _).alloc (by simp; omega) _
    have a0 := (bX.cell (p := ⟨bb, off + q * 2, none⟩) hbb).trans a0
    have a1 := (bX.cell (p := ⟨bb, off + q * 2 + 1, none⟩) hbb).trans a1
    go_enter Try.func22, Try.ntmps22
    go_wp2_with fail
    refine (K5.out _ (by decide) (by decide)).mono ?_
    rintro e W ⟨rfl, rfl⟩
    have bX : Below w.heap.size w (((w.alloc (.cells #[.int .i64 who, .int .i64 kind, .int .i64 (q : Int), .int .i64 hs, .int .i64 hg, .string x] 67)).alloc (.cells #[.int .i64 0, .int .i64 0] 32)).alloc (.cells #[.int .i64 pp.1, .int .i64 pp.2] 32)) := (((Below.refl _ w).alloc (Nat.le_refl _) _).alloc (by simp) _).alloc (by simp; omega) _
    have q5 : (((w.alloc (.cells #[.int .i64 who, .int .i64 kind, .int .i64 (q : Int), .int .i64 hs, .int .i64 hg, .string x] 67)).alloc (.cells #[.int .i64 0, .int .i64 0] 32)).alloc (.cells #[.int .i64 pp.1, .int .i64 pp.2] 32)).cell? ⟨w.heap.size, 5, none⟩ = some (.string x) := by simp [go_sem]
    have z0 : (((w.alloc (.cells #[.int .i64 who, .int .i64 kind, .int .i64 (q : Int), .int .i64 hs, .int .i64 hg, .string x] 67)).alloc (.cells #[.int .i64 0, .int .i64 0] 32)).alloc (.cells #[.int .i64 pp.1, .int .i64 pp.2] 32)).cell? ⟨w.heap.size + 1, 0, none⟩ = some (.int .i64 0) := by simp [go_sem]
    have z1 : (((w.alloc (.cells #[.int .i64 who, .int .i64 kind, .int .i64 (q : Int), .int .i64 hs, .int .i64 hg, .string x] 67)).alloc (.cells #[.int .i64 0, .int .i64 0] 32)).alloc (.cells #[.int .i64 pp.1, .int .i64 pp.2] 32)).cell? ⟨w.heap.size + 1, 1, none⟩ = some (.int .i64 0) := by simp [go_sem]
    have h0c : (((w.alloc (.cells #[.int .i64 who, .int .i64 kind, .int .i64 (q : Int), .int .i64 hs, .int .i64 hg, .string x] 67)).alloc (.cells #[.int .i64 0, .int .i64 0] 32)).alloc (.cells #[.int .i64 pp.1, .int .i64 pp.2] 32)).cell? ⟨w.heap.size + 2, 0, none⟩ = some (.int .i64 pp.1) := by simp [go_sem]
    have h1c : (((w.alloc (.cells #[.int .i64 who, .int .i64 kind, .int .i64 (q : Int), .int .i64 hs, .int .i64 hg, .string x] 67)).alloc (.cells #[.int .i64 0, .int .i64 0] 32)).alloc (.cells #[.int .i64 pp.1, .int .i64 pp.2] 32)).cell? ⟨w.heap.size + 2, 1, none⟩ = some (.int .i64 pp.2) := by simp [go_sem]
    have zf0 : (((w.alloc (.cells #[.int .i64 who, .int .i64 kind, .int .i64 (q : Int), .int .i64 hs, .int .i64 hg, .string x] 67)).alloc (.cells #[.int .i64 0, .int .i64 0] 32)).alloc (.cells #[.int .i64 pp.1, .int .i64 pp.2] 32)).frozen? ⟨w.heap.size + 1, 0, none⟩ = false := by simp [go_sem]
    have zf1 : (((w.alloc (.cells #[.int .i64 who, .int .i64 kind, .int .i64 (q : Int), .int .i64 hs, .int .i64 hg, .string x] 67)).alloc (.cells #[.int .i64 0, .int .i64 0] 32)).alloc (.cells #[.int .i64 pp.1, .int .i64 pp.2] 32)).frozen? ⟨w.heap.size + 1, 1, none⟩ = false := by simp [go_sem]
    have LX : w.heap.size + 2 < (((w.alloc (.cells #[.int .i64 who, .int .i64 kind, .int .i64 (q : Int), .int .i64 hs, .int .i64 hg, .string x] 67)).alloc (.cells #[.int .i64 0, .int .i64 0] 32)).alloc (.cells #[.int .i64 pp.1, .int .i64 pp.2] 32)).heap.size := by simp
    have TT := bX
    have VX := HV.out.below bX
    have RX := HR.out.below bX
    clear bX a0 a1 t1 t2 t3
    generalize (((w.alloc (.cells #[.int .i64 who, .int .i64 kind, .int .i64 (q : Int), .int .i64 hs, .int .i64 hg, .string x] 67)).alloc (.cells #[.int .i64 0, .int .i64 0] 32)).alloc (.cells #[.int .i64 pp.1, .int .i64 pp.2] 32)) = X0 at *
    have hRc : R = 0 ∨ R = 1 ∨ R = 2 ∨ R = 3 ∨ R = 4 := by omega
    rcases hRc with rfl | rfl | rfl | rfl | rfl
    · go_wp2_with fail
      refine (put_void _ _ _ VX).mono ?_
      rintro e W ⟨rfl, z, rfl⟩
      have q5 := (z.h.cell (p := ⟨w.heap.size, 5, none⟩) (by show w.heap.size < _; omega)).trans q5
      have z0 := (z.h.cell (p := ⟨w.heap.size + 1, 0, none⟩) (by show w.heap.size + 1 < _; omega)).trans z0
      have z1 := (z.h.cell (p := ⟨w.heap.size + 1, 1, none⟩) (by show w.heap.size + 1 < _; omega)).trans z1
      have h0c := (z.h.cell (p := ⟨w.heap.size + 2, 0, none⟩) (by show w.heap.size + 2 < _; omega)).trans h0c
      have h1c := (z.h.cell (p := ⟨w.heap.size + 2, 1, none⟩) (by show w.heap.size + 2 < _; omega)).trans h1c
      have zf0 := (z.h.frozen (p := ⟨w.heap.size + 1, 0, none⟩) (by show w.heap.size + 1 < _; omega)).trans zf0
      have zf1 := (z.h.frozen (p := ⟨w.heap.size + 1, 1, none⟩) (by show w.heap.size + 1 < _; omega)).trans zf1
      have LX := Nat.lt_of_lt_of_le LX z.h.size
      have VX := VX.below z.h
      have RX := RX.below z.h
      have TT := TT.trans (z.h.mono (by omega))
      generalize z.i = X1 at *
      clear z
      have n1 : X1.heap.size + 1 ≠ w.heap.size + 1 := by omega
      have n2 : X1.heap.size ≠ w.heap.size + 1 := by omega
      have n3 : w.heap.size + 1 ≠ X1.heap.size + 1 := by omega
      have n4 : w.heap.size + 1 ≠ X1.heap.size := by omega
      have bA : Below X1.heap.size X1 ((X1.alloc (.cells #[.int .i64 0, .int .i64 0] 32)).alloc (.cells #[.int .i64 0, .int .i64 0] 32)) := ((Below.refl _ X1).alloc (Nat.le_refl _) _).alloc (by simp) _
      have p0 : ((X1.alloc (.cells #[.int .i64 0, .int .i64 0] 32)).alloc (.cells #[.int .i64 0, .int .i64 0] 32)).cell? ⟨X1.heap.size, 0, none⟩ = some (.int .i64 0) := by simp [go_sem]
      have r0 : ((X1.alloc (.cells #[.int .i64 0, .int .i64 0] 32)).alloc (.cells #[.int .i64 0, .int .i64 0] 32)).cell? ⟨X1.heap.size + 1, 0, none⟩ = some (.int .i64 0) := by simp [go_sem]
      have p1 : ((X1.alloc (.cells #[.int .i64 0, .int .i64 0] 32)).alloc (.cells #[.int .i64 0, .int .i64 0] 32)).cell? ⟨X1.heap.size, 1, none⟩ = some (.int .i64 0) := by simp [go_sem]
      have r1 : ((X1.alloc (.cells #[.int .i64 0, .int .i64 0] 32)).alloc (.cells #[.int .i64 0, .int .i64 0] 32)).cell? ⟨X1.heap.size + 1, 1, none⟩ = some (.int .i64 0) := by simp [go_sem]
      have q5 := (bA.cell (p := ⟨w.heap.size, 5, none⟩) (by show w.heap.size < _; omega)).trans q5
      have z0 := (bA.cell (p := ⟨w.heap.size + 1, 0, none⟩) (by show w.heap.size + 1 < _; omega)).trans z0
      have z1 := (bA.cell (p := ⟨w.heap.size + 1, 1, none⟩) (by show w.heap.size + 1 < _; omega)).trans z1
      have h0c := (bA.cell (p := ⟨w.heap.size + 2, 0, none⟩) (by show w.heap.size + 2 < _; omega)).trans h0c
      have h1c := (bA.cell (p := ⟨w.heap.size + 2, 1, none⟩) (by show w.heap.size + 2 < _; omega)).trans h1c
      have zf0 := (bA.frozen (p := ⟨w.heap.size + 1, 0, none⟩) (by show w.heap.size + 1 < _; omega)).trans zf0
      have zf1 := (bA.frozen (p := ⟨w.heap.size + 1, 1, none⟩) (by show w.heap.size + 1 < _; omega)).trans zf1
      have LX2 : w.heap.size + 2 < ((X1.alloc (.cells #[.int .i64 0, .int .i64 0] 32)).alloc (.cells #[.int .i64 0, .int .i64 0] 32)).heap.size := by simp; omega
      have TT := TT.trans (bA.mono (by omega))
      have l13 : X1.heap.size + 1 < ((X1.alloc (.cells #[.int .i64 0, .int .i64 0] 32)).alloc (.cells #[.int .i64 0, .int .i64 0] 32)).heap.size := by simp
      clear bA VX RX
      go_wp2_with fail
      generalize ((X1.alloc (.cells #[.int .i64 0, .int .i64 0] 32)).alloc (.cells #[.int .i64 0, .int .i64 0] 32)) = X2 at *
      generalize X1.heap.size = b13 at *
      go_region
      all_goals (try go_wp2_with fail)
      all_goals refine bodyPost_ret (v := .tuple #[.agg #[.int .i64 0, .int .i64 0], .bool true]) (by simp [results, Try.results22, go_sem, z0, z1]) rfl ⟨_, _, rfl, ?_, ?_⟩
      all_goals first | exact (fun _ => rfl) | exact (TT.drew.setCell (p := ⟨w.heap.size + 1, 0, none⟩) (by show w.heap.size ≤ w.heap.size + 1; omega) _).setCell (p := ⟨w.heap.size + 1, 1, none⟩) (by show w.heap.size ≤ w.heap.size + 1; omega) _
    · go_wp2_with fail
      refine (get_void _ pp.1 pp.2 _ VX).mono ?_
      rintro e W ⟨rfl, z, rfl⟩
      have q5 := (z.h.cell (p := ⟨w.heap.size, 5, none⟩) (by show w.heap.size < _; omega)).trans q5
      have z0 := (z.h.cell (p := ⟨w.heap.size + 1, 0, none⟩) (by show w.heap.size + 1 < _; omega)).trans z0
      have z1 := (z.h.cell (p := ⟨w.heap.size + 1, 1, none⟩) (by show w.heap.size + 1 < _; omega)).trans z1
      have h0c := (z.h.cell (p := ⟨w.heap.size + 2, 0, none⟩) (by show w.heap.size + 2 < _; omega)).trans h0c
      have h1c := (z.h.cell (p := ⟨w.heap.size + 2, 1, none⟩) (by show w.heap.size + 2 < _; omega)).trans h1c
      have zf0 := (z.h.frozen (p := ⟨w.heap.size + 1, 0, none⟩) (by show w.heap.size + 1 < _; omega)).trans zf0
      have zf1 := (z.h.frozen (p := ⟨w.heap.size + 1, 1, none⟩) (by show w.heap.size + 1 < _; omega)).trans zf1
      have LX := Nat.lt_of_lt_of_le LX z.h.size
      have VX := VX.below z.h
      have RX := RX.below z.h
      have TT := TT.trans (z.h.mono (by omega))
      generalize z.i = X1 at *
      clear z
      go_wp2_with fail
      refine (rget_miss B bm o v 0 [] pp.1 pp.2 _ RX (fun u hu => rfind_miss B bm o v 0 [] _ _ u hu (fun k e he => by simp at he) (by decide))).mono ?_
      rintro e W ⟨rfl, z, rfl⟩
      have q5 := (z.h.cell (p := ⟨w.heap.size, 5, none⟩) (by show w.heap.size < _; omega)).trans q5
      have z0 := (z.h.cell (p := ⟨w.heap.size + 1, 0, none⟩) (by show w.heap.size + 1 < _; omega)).trans z0
      have z1 := (z.h.cell (p := ⟨w.heap.size + 1, 1, none⟩) (by show w.heap.size + 1 < _; omega)).trans z1
      have h0c := (z.h.cell (p := ⟨w.heap.size + 2, 0, none⟩) (by show w.heap.size + 2 < _; omega)).trans h0c
      have h1c := (z.h.cell (p := ⟨w.heap.size + 2, 1, none⟩) (by show w.heap.size + 2 < _; omega)).trans h1c
      have zf0 := (z.h.frozen (p := ⟨w.heap.size + 1, 0, none⟩) (by show w.heap.size + 1 < _; omega)).trans zf0
      have zf1 := (z.h.frozen (p := ⟨w.heap.size + 1, 1, none⟩) (by show w.heap.size + 1 < _; omega)).trans zf1
      have LX := Nat.lt_of_lt_of_le LX z.h.size
      have VX := VX.below z.h
      have RX := RX.below z.h
      have TT := TT.trans (z.h.mono (by omega))
      generalize z.i = X2 at *
      clear z
      go_wp2_with fail
      refine bodyPost_ret (v := .tuple #[.agg #[.int .i64 pp.1, .int .i64 pp.2], .bool true]) (by simp [results, Try.results22, go_sem, z0, z1]) rfl ⟨_, _, rfl, ?_, ?_⟩
      · exact (TT.setCell (p := ⟨w.heap.size + 1, 0, none⟩) (by show w.heap.size ≤ w.heap.size + 1; omega) _).setCell (p := ⟨w.heap.size + 1, 1, none⟩) (by show w.heap.size ≤ w.heap.size + 1; omega) _
      · exact fun h => by omega
    · go_wp2_with fail
      refine (set_void _ pp.1 pp.2 x _ VX).mono ?_
      rintro e W ⟨rfl, z, rfl⟩
      have q5 := (z.h.cell (p := ⟨w.heap.size, 5, none⟩) (by show w.heap.size < _; omega)).trans q5
      have z0 := (z.h.cell (p := ⟨w.heap.size + 1, 0, none⟩) (by show w.heap.size + 1 < _; omega)).trans z0
      have z1 := (z.h.cell (p := ⟨w.heap.size + 1, 1, none⟩) (by show w.heap.size + 1 < _; omega)).trans z1
      have h0c := (z.h.cell (p := ⟨w.heap.size + 2, 0, none⟩) (by show w.heap.size + 2 < _; omega)).trans h0c
      have h1c := (z.h.cell (p := ⟨w.heap.size + 2, 1, none⟩) (by show w.heap.size + 2 < _; omega)).trans h1c
      have zf0 := (z.h.frozen (p := ⟨w.heap.size + 1, 0, none⟩) (by show w.heap.size + 1 < _; omega)).trans zf0
      have zf1 := (z.h.frozen (p := ⟨w.heap.size + 1, 1, none⟩) (by show w.heap.size + 1 < _; omega)).trans zf1
      have LX := Nat.lt_of_lt_of_le LX z.h.size
      have VX := VX.below z.h
      have RX := RX.below z.h
      have TT := TT.trans (z.h.mono (by omega))
      generalize z.i = X1 at *
      clear z
      go_wp2_with fail
      refine (rset_miss B bm o v 0 [] pp.1 pp.2 _ RX x (fun u hu => rfind_miss B bm o v 0 [] _ _ u hu (fun k e he => by simp at he) (by decide))).mono ?_
      rintro e W ⟨rfl, z, rfl⟩
      have q5 := (z.h.cell (p := ⟨w.heap.size, 5, none⟩) (by show w.heap.size < _; omega)).trans q5
      have z0 := (z.h.cell (p := ⟨w.heap.size + 1, 0, none⟩) (by show w.heap.size + 1 < _; omega)).trans z0
      have z1 := (z.h.cell (p := ⟨w.heap.size + 1, 1, none⟩) (by show w.heap.size + 1 < _; omega)).trans z1
      have h0c := (z.h.cell (p := ⟨w.heap.size + 2, 0, none⟩) (by show w.heap.size + 2 < _; omega)).trans h0c
      have h1c := (z.h.cell (p := ⟨w.heap.size + 2, 1, none⟩) (by show w.heap.size + 2 < _; omega)).trans h1c
      have zf0 := (z.h.frozen (p := ⟨w.heap.size + 1, 0, none⟩) (by show w.heap.size + 1 < _; omega)).trans zf0
      have zf1 := (z.h.frozen (p := ⟨w.heap.size + 1, 1, none⟩) (by show w.heap.size + 1 < _; omega)).trans zf1
      have LX := Nat.lt_of_lt_of_le LX z.h.size
      have VX := VX.below z.h
      have RX := RX.below z.h
      have TT := TT.trans (z.h.mono (by omega))
      generalize z.i = X2 at *
      clear z
      go_wp2_with fail
      refine bodyPost_ret (v := .tuple #[.agg #[.int .i64 pp.1, .int .i64 pp.2], .bool true]) (by simp [results, Try.results22, go_sem, z0, z1]) rfl ⟨_, _, rfl, ?_, ?_⟩
      · exact (TT.setCell (p := ⟨w.heap.size + 1, 0, none⟩) (by show w.heap.size ≤ w.heap.size + 1; omega) _).setCell (p := ⟨w.heap.size + 1, 1, none⟩) (by show w.heap.size ≤ w.heap.size + 1; omega) _
      · exact fun h => by omega
    · go_wp2_with fail
      refine (drop_void _ pp.1 pp.2 _ VX).mono ?_
      rintro e W ⟨rfl, z, rfl⟩
      have q5 := (z.h.cell (p := ⟨w.heap.size, 5, none⟩) (by show w.heap.size < _; omega)).trans q5
      have z0 := (z.h.cell (p := ⟨w.heap.size + 1, 0, none⟩) (by show w.heap.size + 1 < _; omega)).trans z0
      have z1 := (z.h.cell (p := ⟨w.heap.size + 1, 1, none⟩) (by show w.heap.size + 1 < _; omega)).trans z1
      have h0c := (z.h.cell (p := ⟨w.heap.size + 2, 0, none⟩) (by show w.heap.size + 2 < _; omega)).trans h0c
      have h1c := (z.h.cell (p := ⟨w.heap.size + 2, 1, none⟩) (by show w.heap.size + 2 < _; omega)).trans h1c
      have zf0 := (z.h.frozen (p := ⟨w.heap.size + 1, 0, none⟩) (by show w.heap.size + 1 < _; omega)).trans zf0
      have zf1 := (z.h.frozen (p := ⟨w.heap.size + 1, 1, none⟩) (by show w.heap.size + 1 < _; omega)).trans zf1
      have LX := Nat.lt_of_lt_of_le LX z.h.size
      have VX := VX.below z.h
      have RX := RX.below z.h
      have TT := TT.trans (z.h.mono (by omega))
      generalize z.i = X1 at *
      clear z
      go_wp2_with fail
      refine (rdrop_miss B bm o v 0 [] pp.1 pp.2 _ RX (fun u hu => rfind_miss B bm o v 0 [] _ _ u hu (fun k e he => by simp at he) (by decide))).mono ?_
      rintro e W ⟨rfl, z, rfl⟩
      have q5 := (z.h.cell (p := ⟨w.heap.size, 5, none⟩) (by show w.heap.size < _; omega)).trans q5
      have z0 := (z.h.cell (p := ⟨w.heap.size + 1, 0, none⟩) (by show w.heap.size + 1 < _; omega)).trans z0
      have z1 := (z.h.cell (p := ⟨w.heap.size + 1, 1, none⟩) (by show w.heap.size + 1 < _; omega)).trans z1
      have h0c := (z.h.cell (p := ⟨w.heap.size + 2, 0, none⟩) (by show w.heap.size + 2 < _; omega)).trans h0c
      have h1c := (z.h.cell (p := ⟨w.heap.size + 2, 1, none⟩) (by show w.heap.size + 2 < _; omega)).trans h1c
      have zf0 := (z.h.frozen (p := ⟨w.heap.size + 1, 0, none⟩) (by show w.heap.size + 1 < _; omega)).trans zf0
      have zf1 := (z.h.frozen (p := ⟨w.heap.size + 1, 1, none⟩) (by show w.heap.size + 1 < _; omega)).trans zf1
      have LX := Nat.lt_of_lt_of_le LX z.h.size
      have VX := VX.below z.h
      have RX := RX.below z.h
      have TT := TT.trans (z.h.mono (by omega))
      generalize z.i = X2 at *
      clear z
      go_wp2_with fail
      refine bodyPost_ret (v := .tuple #[.agg #[.int .i64 pp.1, .int .i64 pp.2], .bool true]) (by simp [results, Try.results22, go_sem, z0, z1]) rfl ⟨_, _, rfl, ?_, ?_⟩
      · exact (TT.setCell (p := ⟨w.heap.size + 1, 0, none⟩) (by show w.heap.size ≤ w.heap.size + 1; omega) _).setCell (p := ⟨w.heap.size + 1, 1, none⟩) (by show w.heap.size ≤ w.heap.size + 1; omega) _
      · exact fun h => by omega
    · have C1 := Lib.hid (fun (u : World) (hu : RefAt B u bm o v 0 []) => op_list (RInv.start 0) rfl (by decide) (by decide) u hu)
      have VXh := Lib.hid VX; have RXh := Lib.hid RX; have TTh := Lib.hid TT
      go_wp2_with fail
      go_region_with (first | (go_at_call 23; refine Calls.mono (C1.out _ (RXh.out.below (Below.refl _ _).drew)) ?_; rintro e W1 ⟨v1, rfl, b1, own1⟩; have bY := (Below.refl _ X0).drew.trans b1; have V1 := VXh.out.below bY; have h0d := (b1.cell (p := ⟨w.heap.size + 2, 0, none⟩) LX).trans h0c; have h1d := (b1.cell (p := ⟨w.heap.size + 2, 1, none⟩) LX).trans h1c) | (go_at_call 26; refine Calls.mono (has_void V1 own1) ?_; rintro e W2 ⟨rfl, z2, rfl⟩; have bz := b1.trans (z2.h.mono b1.size); have h0e := (bz.cell (p := ⟨w.heap.size + 2, 0, none⟩) LX).trans h0c; have h1e := (bz.cell (p := ⟨w.heap.size + 2, 1, none⟩) LX).trans h1c; have z0e := (bz.cell (p := ⟨w.heap.size + 1, 0, none⟩) (Nat.lt_of_succ_lt LX)).trans z0; have z1e := (bz.cell (p := ⟨w.heap.size + 1, 1, none⟩) (Nat.lt_of_succ_lt LX)).trans z1; have zf0e := (bz.frozen (p := ⟨w.heap.size + 1, 0, none⟩) (Nat.lt_of_succ_lt LX)).trans zf0; have zf1e := (bz.frozen (p := ⟨w.heap.size + 1, 1, none⟩) (Nat.lt_of_succ_lt LX)).trans zf1))
      all_goals (try go_wp2_with fail)
      all_goals refine bodyPost_ret (v := .tuple #[.agg #[.int .i64 (pp.1), .int .i64 (pp.2)], .bool true]) (by simp [results, Try.results22, go_sem, z0e, z1e]) rfl ⟨_, _, rfl, ?_, ?_⟩
      all_goals first | exact (fun h => by omega) | exact ((TTh.out.drew.trans (bz.mono (by show w.heap.size ≤ X0.heap.size; omega))).setCell (p := ⟨w.heap.size + 1, 0, none⟩) (by show w.heap.size ≤ w.heap.size + 1; omega) _).setCell (p := ⟨w.heap.size + 1, 1, none⟩) (by show w.heap.size ≤ w.heap.size + 1; omega) _
  · have t1 : decide (0 ≤ nn) = false ∨ (decide (0 ≤ nn) = true ∧ decide (nn < (n7 : Int)) = false) := by
      by_cases h1 : 0 ≤ nn
      · exact .inr ⟨decide_eq_true h1, decide_eq_false (fun h2 => hN ⟨h1, h2⟩)⟩
      · exact .inl (decide_eq_false h1)
    rcases t1 with t1 | ⟨t1, t2⟩
    · go_enter Try.func22, Try.ntmps22
      go_wp2_with fail
      refine (K5.out _ (by decide) (by decide)).mono ?_
      rintro e W ⟨rfl, rfl⟩
      have bX : Below w.heap.size w (((w.alloc (.cells #[.int .i64 who, .int .i64 kind, .int .i64 nn, .int .i64 hs, .int .i64 hg, .string x] 67)).alloc (.cells #[.int .i64 0, .int .i64 0] 32)).alloc (.cells #[.int .i64 hs, .int .i64 hg] 32)) := (((Below.refl _ w).alloc (Nat.le_refl _) _).alloc (by simp) _).alloc (by simp; omega) _
      have q5 : (((w.alloc (.cells #[.int .i64 who, .int .i64 kind, .int .i64 nn, .int .i64 hs, .int .i64 hg, .string x] 67)).alloc (.cells #[.int .i64 0, .int .i64 0] 32)).alloc (.cells #[.int .i64 hs, .int .i64 hg] 32)).cell? ⟨w.heap.size, 5, none⟩ = some (.string x) := by simp [go_sem]
      have z0 : (((w.alloc (.cells #[.int .i64 who, .int .i64 kind, .int .i64 nn, .int .i64 hs, .int .i64 hg, .string x] 67)).alloc (.cells #[.int .i64 0, .int .i64 0] 32)).alloc (.cells #[.int .i64 hs, .int .i64 hg] 32)).cell? ⟨w.heap.size + 1, 0, none⟩ = some (.int .i64 0) := by simp [go_sem]
      have z1 : (((w.alloc (.cells #[.int .i64 who, .int .i64 kind, .int .i64 nn, .int .i64 hs, .int .i64 hg, .string x] 67)).alloc (.cells #[.int .i64 0, .int .i64 0] 32)).alloc (.cells #[.int .i64 hs, .int .i64 hg] 32)).cell? ⟨w.heap.size + 1, 1, none⟩ = some (.int .i64 0) := by simp [go_sem]
      have h0c : (((w.alloc (.cells #[.int .i64 who, .int .i64 kind, .int .i64 nn, .int .i64 hs, .int .i64 hg, .string x] 67)).alloc (.cells #[.int .i64 0, .int .i64 0] 32)).alloc (.cells #[.int .i64 hs, .int .i64 hg] 32)).cell? ⟨w.heap.size + 2, 0, none⟩ = some (.int .i64 hs) := by simp [go_sem]
      have h1c : (((w.alloc (.cells #[.int .i64 who, .int .i64 kind, .int .i64 nn, .int .i64 hs, .int .i64 hg, .string x] 67)).alloc (.cells #[.int .i64 0, .int .i64 0] 32)).alloc (.cells #[.int .i64 hs, .int .i64 hg] 32)).cell? ⟨w.heap.size + 2, 1, none⟩ = some (.int .i64 hg) := by simp [go_sem]
      have zf0 : (((w.alloc (.cells #[.int .i64 who, .int .i64 kind, .int .i64 nn, .int .i64 hs, .int .i64 hg, .string x] 67)).alloc (.cells #[.int .i64 0, .int .i64 0] 32)).alloc (.cells #[.int .i64 hs, .int .i64 hg] 32)).frozen? ⟨w.heap.size + 1, 0, none⟩ = false := by simp [go_sem]
      have zf1 : (((w.alloc (.cells #[.int .i64 who, .int .i64 kind, .int .i64 nn, .int .i64 hs, .int .i64 hg, .string x] 67)).alloc (.cells #[.int .i64 0, .int .i64 0] 32)).alloc (.cells #[.int .i64 hs, .int .i64 hg] 32)).frozen? ⟨w.heap.size + 1, 1, none⟩ = false := by simp [go_sem]
      have LX : w.heap.size + 2 < (((w.alloc (.cells #[.int .i64 who, .int .i64 kind, .int .i64 nn, .int .i64 hs, .int .i64 hg, .string x] 67)).alloc (.cells #[.int .i64 0, .int .i64 0] 32)).alloc (.cells #[.int .i64 hs, .int .i64 hg] 32)).heap.size := by simp
      have TT := bX
      have VX := HV.out.below bX
      have RX := HR.out.below bX
      clear bX 
      generalize (((w.alloc (.cells #[.int .i64 who, .int .i64 kind, .int .i64 nn, .int .i64 hs, .int .i64 hg, .string x] 67)).alloc (.cells #[.int .i64 0, .int .i64 0] 32)).alloc (.cells #[.int .i64 hs, .int .i64 hg] 32)) = X0 at *
      have hRc : R = 0 ∨ R = 1 ∨ R = 2 ∨ R = 3 ∨ R = 4 := by omega
      rcases hRc with rfl | rfl | rfl | rfl | rfl
      · go_wp2_with fail
        refine (put_void _ _ _ VX).mono ?_
        rintro e W ⟨rfl, z, rfl⟩
        have q5 := (z.h.cell (p := ⟨w.heap.size, 5, none⟩) (by show w.heap.size < _; omega)).trans q5
        have z0 := (z.h.cell (p := ⟨w.heap.size + 1, 0, none⟩) (by show w.heap.size + 1 < _; omega)).trans z0
        have z1 := (z.h.cell (p := ⟨w.heap.size + 1, 1, none⟩) (by show w.heap.size + 1 < _; omega)).trans z1
        have h0c := (z.h.cell (p := ⟨w.heap.size + 2, 0, none⟩) (by show w.heap.size + 2 < _; omega)).trans h0c
        have h1c := (z.h.cell (p := ⟨w.heap.size + 2, 1, none⟩) (by show w.heap.size + 2 < _; omega)).trans h1c
        have zf0 := (z.h.frozen (p := ⟨w.heap.size + 1, 0, none⟩) (by show w.heap.size + 1 < _; omega)).trans zf0
        have zf1 := (z.h.frozen (p := ⟨w.heap.size + 1, 1, none⟩) (by show w.heap.size + 1 < _; omega)).trans zf1
        have LX := Nat.lt_of_lt_of_le LX z.h.size
        have VX := VX.below z.h
        have RX := RX.below z.h
        have TT := TT.trans (z.h.mono (by omega))
        generalize z.i = X1 at *
        clear z
        have n1 : X1.heap.size + 1 ≠ w.heap.size + 1 := by omega
        have n2 : X1.heap.size ≠ w.heap.size + 1 := by omega
        have n3 : w.heap.size + 1 ≠ X1.heap.size + 1 := by omega
        have n4 : w.heap.size + 1 ≠ X1.heap.size := by omega
        have bA : Below X1.heap.size X1 ((X1.alloc (.cells #[.int .i64 0, .int .i64 0] 32)).alloc (.cells #[.int .i64 0, .int .i64 0] 32)) := ((Below.refl _ X1).alloc (Nat.le_refl _) _).alloc (by simp) _
        have p0 : ((X1.alloc (.cells #[.int .i64 0, .int .i64 0] 32)).alloc (.cells #[.int .i64 0, .int .i64 0] 32)).cell? ⟨X1.heap.size, 0, none⟩ = some (.int .i64 0) := by simp [go_sem]
        have r0 : ((X1.alloc (.cells #[.int .i64 0, .int .i64 0] 32)).alloc (.cells #[.int .i64 0, .int .i64 0] 32)).cell? ⟨X1.heap.size + 1, 0, none⟩ = some (.int .i64 0) := by simp [go_sem]
        have p1 : ((X1.alloc (.cells #[.int .i64 0, .int .i64 0] 32)).alloc (.cells #[.int .i64 0, .int .i64 0] 32)).cell? ⟨X1.heap.size, 1, none⟩ = some (.int .i64 0) := by simp [go_sem]
        have r1 : ((X1.alloc (.cells #[.int .i64 0, .int .i64 0] 32)).alloc (.cells #[.int .i64 0, .int .i64 0] 32)).cell? ⟨X1.heap.size + 1, 1, none⟩ = some (.int .i64 0) := by simp [go_sem]
        have q5 := (bA.cell (p := ⟨w.heap.size, 5, none⟩) (by show w.heap.size < _; omega)).trans q5
        have z0 := (bA.cell (p := ⟨w.heap.size + 1, 0, none⟩) (by show w.heap.size + 1 < _; omega)).trans z0
        have z1 := (bA.cell (p := ⟨w.heap.size + 1, 1, none⟩) (by show w.heap.size + 1 < _; omega)).trans z1
        have h0c := (bA.cell (p := ⟨w.heap.size + 2, 0, none⟩) (by show w.heap.size + 2 < _; omega)).trans h0c
        have h1c := (bA.cell (p := ⟨w.heap.size + 2, 1, none⟩) (by show w.heap.size + 2 < _; omega)).trans h1c
        have zf0 := (bA.frozen (p := ⟨w.heap.size + 1, 0, none⟩) (by show w.heap.size + 1 < _; omega)).trans zf0
        have zf1 := (bA.frozen (p := ⟨w.heap.size + 1, 1, none⟩) (by show w.heap.size + 1 < _; omega)).trans zf1
        have LX2 : w.heap.size + 2 < ((X1.alloc (.cells #[.int .i64 0, .int .i64 0] 32)).alloc (.cells #[.int .i64 0, .int .i64 0] 32)).heap.size := by simp; omega
        have TT := TT.trans (bA.mono (by omega))
        have l13 : X1.heap.size + 1 < ((X1.alloc (.cells #[.int .i64 0, .int .i64 0] 32)).alloc (.cells #[.int .i64 0, .int .i64 0] 32)).heap.size := by simp
        clear bA VX RX
        go_wp2_with fail
        generalize ((X1.alloc (.cells #[.int .i64 0, .int .i64 0] 32)).alloc (.cells #[.int .i64 0, .int .i64 0] 32)) = X2 at *
        generalize X1.heap.size = b13 at *
        go_region
        all_goals (try go_wp2_with fail)
        all_goals refine bodyPost_ret (v := .tuple #[.agg #[.int .i64 0, .int .i64 0], .bool true]) (by simp [results, Try.results22, go_sem, z0, z1]) rfl ⟨_, _, rfl, ?_, ?_⟩
        all_goals first | exact (fun _ => rfl) | exact (TT.drew.setCell (p := ⟨w.heap.size + 1, 0, none⟩) (by show w.heap.size ≤ w.heap.size + 1; omega) _).setCell (p := ⟨w.heap.size + 1, 1, none⟩) (by show w.heap.size ≤ w.heap.size + 1; omega) _
      · go_wp2_with fail
        refine (get_void _ hs hg _ VX).mono ?_
        rintro e W ⟨rfl, z, rfl⟩
        have q5 := (z.h.cell (p := ⟨w.heap.size, 5, none⟩) (by show w.heap.size < _; omega)).trans q5
        have z0 := (z.h.cell (p := ⟨w.heap.size + 1, 0, none⟩) (by show w.heap.size + 1 < _; omega)).trans z0
        have z1 := (z.h.cell (p := ⟨w.heap.size + 1, 1, none⟩) (by show w.heap.size + 1 < _; omega)).trans z1
        have h0c := (z.h.cell (p := ⟨w.heap.size + 2, 0, none⟩) (by show w.heap.size + 2 < _; omega)).trans h0c
        have h1c := (z.h.cell (p := ⟨w.heap.size + 2, 1, none⟩) (by show w.heap.size + 2 < _; omega)).trans h1c
        have zf0 := (z.h.frozen (p := ⟨w.heap.size + 1, 0, none⟩) (by show w.heap.size + 1 < _; omega)).trans zf0
        have zf1 := (z.h.frozen (p := ⟨w.heap.size + 1, 1, none⟩) (by show w.heap.size + 1 < _; omega)).trans zf1
        have LX := Nat.lt_of_lt_of_le LX z.h.size
        have VX := VX.below z.h
        have RX := RX.below z.h
        have TT := TT.trans (z.h.mono (by omega))
        generalize z.i = X1 at *
        clear z
        go_wp2_with fail
        refine (rget_miss B bm o v 0 [] hs hg _ RX (fun u hu => rfind_miss B bm o v 0 [] _ _ u hu (fun k e he => by simp at he) (by decide))).mono ?_
        rintro e W ⟨rfl, z, rfl⟩
        have q5 := (z.h.cell (p := ⟨w.heap.size, 5, none⟩) (by show w.heap.size < _; omega)).trans q5
        have z0 := (z.h.cell (p := ⟨w.heap.size + 1, 0, none⟩) (by show w.heap.size + 1 < _; omega)).trans z0
        have z1 := (z.h.cell (p := ⟨w.heap.size + 1, 1, none⟩) (by show w.heap.size + 1 < _; omega)).trans z1
        have h0c := (z.h.cell (p := ⟨w.heap.size + 2, 0, none⟩) (by show w.heap.size + 2 < _; omega)).trans h0c
        have h1c := (z.h.cell (p := ⟨w.heap.size + 2, 1, none⟩) (by show w.heap.size + 2 < _; omega)).trans h1c
        have zf0 := (z.h.frozen (p := ⟨w.heap.size + 1, 0, none⟩) (by show w.heap.size + 1 < _; omega)).trans zf0
        have zf1 := (z.h.frozen (p := ⟨w.heap.size + 1, 1, none⟩) (by show w.heap.size + 1 < _; omega)).trans zf1
        have LX := Nat.lt_of_lt_of_le LX z.h.size
        have VX := VX.below z.h
        have RX := RX.below z.h
        have TT := TT.trans (z.h.mono (by omega))
        generalize z.i = X2 at *
        clear z
        go_wp2_with fail
        refine bodyPost_ret (v := .tuple #[.agg #[.int .i64 hs, .int .i64 hg], .bool true]) (by simp [results, Try.results22, go_sem, z0, z1]) rfl ⟨_, _, rfl, ?_, ?_⟩
        · exact (TT.setCell (p := ⟨w.heap.size + 1, 0, none⟩) (by show w.heap.size ≤ w.heap.size + 1; omega) _).setCell (p := ⟨w.heap.size + 1, 1, none⟩) (by show w.heap.size ≤ w.heap.size + 1; omega) _
        · exact fun h => by omega
      · go_wp2_with fail
        refine (set_void _ hs hg x _ VX).mono ?_
        rintro e W ⟨rfl, z, rfl⟩
        have q5 := (z.h.cell (p := ⟨w.heap.size, 5, none⟩) (by show w.heap.size < _; omega)).trans q5
        have z0 := (z.h.cell (p := ⟨w.heap.size + 1, 0, none⟩) (by show w.heap.size + 1 < _; omega)).trans z0
        have z1 := (z.h.cell (p := ⟨w.heap.size + 1, 1, none⟩) (by show w.heap.size + 1 < _; omega)).trans z1
        have h0c := (z.h.cell (p := ⟨w.heap.size + 2, 0, none⟩) (by show w.heap.size + 2 < _; omega)).trans h0c
        have h1c := (z.h.cell (p := ⟨w.heap.size + 2, 1, none⟩) (by show w.heap.size + 2 < _; omega)).trans h1c
        have zf0 := (z.h.frozen (p := ⟨w.heap.size + 1, 0, none⟩) (by show w.heap.size + 1 < _; omega)).trans zf0
        have zf1 := (z.h.frozen (p := ⟨w.heap.size + 1, 1, none⟩) (by show w.heap.size + 1 < _; omega)).trans zf1
        have LX := Nat.lt_of_lt_of_le LX z.h.size
        have VX := VX.below z.h
        have RX := RX.below z.h
        have TT := TT.trans (z.h.mono (by omega))
        generalize z.i = X1 at *
        clear z
        go_wp2_with fail
        refine (rset_miss B bm o v 0 [] hs hg _ RX x (fun u hu => rfind_miss B bm o v 0 [] _ _ u hu (fun k e he => by simp at he) (by decide))).mono ?_
        rintro e W ⟨rfl, z, rfl⟩
        have q5 := (z.h.cell (p := ⟨w.heap.size, 5, none⟩) (by show w.heap.size < _; omega)).trans q5
        have z0 := (z.h.cell (p := ⟨w.heap.size + 1, 0, none⟩) (by show w.heap.size + 1 < _; omega)).trans z0
        have z1 := (z.h.cell (p := ⟨w.heap.size + 1, 1, none⟩) (by show w.heap.size + 1 < _; omega)).trans z1
        have h0c := (z.h.cell (p := ⟨w.heap.size + 2, 0, none⟩) (by show w.heap.size + 2 < _; omega)).trans h0c
        have h1c := (z.h.cell (p := ⟨w.heap.size + 2, 1, none⟩) (by show w.heap.size + 2 < _; omega)).trans h1c
        have zf0 := (z.h.frozen (p := ⟨w.heap.size + 1, 0, none⟩) (by show w.heap.size + 1 < _; omega)).trans zf0
        have zf1 := (z.h.frozen (p := ⟨w.heap.size + 1, 1, none⟩) (by show w.heap.size + 1 < _; omega)).trans zf1
        have LX := Nat.lt_of_lt_of_le LX z.h.size
        have VX := VX.below z.h
        have RX := RX.below z.h
        have TT := TT.trans (z.h.mono (by omega))
        generalize z.i = X2 at *
        clear z
        go_wp2_with fail
        refine bodyPost_ret (v := .tuple #[.agg #[.int .i64 hs, .int .i64 hg], .bool true]) (by simp [results, Try.results22, go_sem, z0, z1]) rfl ⟨_, _, rfl, ?_, ?_⟩
        · exact (TT.setCell (p := ⟨w.heap.size + 1, 0, none⟩) (by show w.heap.size ≤ w.heap.size + 1; omega) _).setCell (p := ⟨w.heap.size + 1, 1, none⟩) (by show w.heap.size ≤ w.heap.size + 1; omega) _
        · exact fun h => by omega
      · go_wp2_with fail
        refine (drop_void _ hs hg _ VX).mono ?_
        rintro e W ⟨rfl, z, rfl⟩
        have q5 := (z.h.cell (p := ⟨w.heap.size, 5, none⟩) (by show w.heap.size < _; omega)).trans q5
        have z0 := (z.h.cell (p := ⟨w.heap.size + 1, 0, none⟩) (by show w.heap.size + 1 < _; omega)).trans z0
        have z1 := (z.h.cell (p := ⟨w.heap.size + 1, 1, none⟩) (by show w.heap.size + 1 < _; omega)).trans z1
        have h0c := (z.h.cell (p := ⟨w.heap.size + 2, 0, none⟩) (by show w.heap.size + 2 < _; omega)).trans h0c
        have h1c := (z.h.cell (p := ⟨w.heap.size + 2, 1, none⟩) (by show w.heap.size + 2 < _; omega)).trans h1c
        have zf0 := (z.h.frozen (p := ⟨w.heap.size + 1, 0, none⟩) (by show w.heap.size + 1 < _; omega)).trans zf0
        have zf1 := (z.h.frozen (p := ⟨w.heap.size + 1, 1, none⟩) (by show w.heap.size + 1 < _; omega)).trans zf1
        have LX := Nat.lt_of_lt_of_le LX z.h.size
        have VX := VX.below z.h
        have RX := RX.below z.h
        have TT := TT.trans (z.h.mono (by omega))
        generalize z.i = X1 at *
        clear z
        go_wp2_with fail
        refine (rdrop_miss B bm o v 0 [] hs hg _ RX (fun u hu => rfind_miss B bm o v 0 [] _ _ u hu (fun k e he => by simp at he) (by decide))).mono ?_
        rintro e W ⟨rfl, z, rfl⟩
        have q5 := (z.h.cell (p := ⟨w.heap.size, 5, none⟩) (by show w.heap.size < _; omega)).trans q5
        have z0 := (z.h.cell (p := ⟨w.heap.size + 1, 0, none⟩) (by show w.heap.size + 1 < _; omega)).trans z0
        have z1 := (z.h.cell (p := ⟨w.heap.size + 1, 1, none⟩) (by show w.heap.size + 1 < _; omega)).trans z1
        have h0c := (z.h.cell (p := ⟨w.heap.size + 2, 0, none⟩) (by show w.heap.size + 2 < _; omega)).trans h0c
        have h1c := (z.h.cell (p := ⟨w.heap.size + 2, 1, none⟩) (by show w.heap.size + 2 < _; omega)).trans h1c
        have zf0 := (z.h.frozen (p := ⟨w.heap.size + 1, 0, none⟩) (by show w.heap.size + 1 < _; omega)).trans zf0
        have zf1 := (z.h.frozen (p := ⟨w.heap.size + 1, 1, none⟩) (by show w.heap.size + 1 < _; omega)).trans zf1
        have LX := Nat.lt_of_lt_of_le LX z.h.size
        have VX := VX.below z.h
        have RX := RX.below z.h
        have TT := TT.trans (z.h.mono (by omega))
        generalize z.i = X2 at *
        clear z
        go_wp2_with fail
        refine bodyPost_ret (v := .tuple #[.agg #[.int .i64 hs, .int .i64 hg], .bool true]) (by simp [results, Try.results22, go_sem, z0, z1]) rfl ⟨_, _, rfl, ?_, ?_⟩
        · exact (TT.setCell (p := ⟨w.heap.size + 1, 0, none⟩) (by show w.heap.size ≤ w.heap.size + 1; omega) _).setCell (p := ⟨w.heap.size + 1, 1, none⟩) (by show w.heap.size ≤ w.heap.size + 1; omega) _
        · exact fun h => by omega
      · have C1 := Lib.hid (fun (u : World) (hu : RefAt B u bm o v 0 []) => op_list (RInv.start 0) rfl (by decide) (by decide) u hu)
        have VXh := Lib.hid VX; have RXh := Lib.hid RX; have TTh := Lib.hid TT
        go_wp2_with fail
        go_region_with (first | (go_at_call 23; refine Calls.mono (C1.out _ (RXh.out.below (Below.refl _ _).drew)) ?_; rintro e W1 ⟨v1, rfl, b1, own1⟩; have bY := (Below.refl _ X0).drew.trans b1; have V1 := VXh.out.below bY; have h0d := (b1.cell (p := ⟨w.heap.size + 2, 0, none⟩) LX).trans h0c; have h1d := (b1.cell (p := ⟨w.heap.size + 2, 1, none⟩) LX).trans h1c) | (go_at_call 26; refine Calls.mono (has_void V1 own1) ?_; rintro e W2 ⟨rfl, z2, rfl⟩; have bz := b1.trans (z2.h.mono b1.size); have h0e := (bz.cell (p := ⟨w.heap.size + 2, 0, none⟩) LX).trans h0c; have h1e := (bz.cell (p := ⟨w.heap.size + 2, 1, none⟩) LX).trans h1c; have z0e := (bz.cell (p := ⟨w.heap.size + 1, 0, none⟩) (Nat.lt_of_succ_lt LX)).trans z0; have z1e := (bz.cell (p := ⟨w.heap.size + 1, 1, none⟩) (Nat.lt_of_succ_lt LX)).trans z1; have zf0e := (bz.frozen (p := ⟨w.heap.size + 1, 0, none⟩) (Nat.lt_of_succ_lt LX)).trans zf0; have zf1e := (bz.frozen (p := ⟨w.heap.size + 1, 1, none⟩) (Nat.lt_of_succ_lt LX)).trans zf1))
        all_goals (try go_wp2_with fail)
        all_goals refine bodyPost_ret (v := .tuple #[.agg #[.int .i64 (hs), .int .i64 (hg)], .bool true]) (by simp [results, Try.results22, go_sem, z0e, z1e]) rfl ⟨_, _, rfl, ?_, ?_⟩
        all_goals first | exact (fun h => by omega) | exact ((TTh.out.drew.trans (bz.mono (by show w.heap.size ≤ X0.heap.size; omega))).setCell (p := ⟨w.heap.size + 1, 0, none⟩) (by show w.heap.size ≤ w.heap.size + 1; omega) _).setCell (p := ⟨w.heap.size + 1, 1, none⟩) (by show w.heap.size ≤ w.heap.size + 1; omega) _
    · go_enter Try.func22, Try.ntmps22
      go_wp2_with fail
      refine (K5.out _ (by decide) (by decide)).mono ?_
      rintro e W ⟨rfl, rfl⟩
      have bX : Below w.heap.size w (((w.alloc (.cells #[.int .i64 who, .int .i64 kind, .int .i64 nn, .int .i64 hs, .int .i64 hg, .string x] 67)).alloc (.cells #[.int .i64 0, .int .i64 0] 32)).alloc (.cells #[.int .i64 hs, .int .i64 hg] 32)) := (((Below.refl _ w).alloc (Nat.le_refl _) _).alloc (by simp) _).alloc (by simp; omega) _
      have q5 : (((w.alloc (.cells #[.int .i64 who, .int .i64 kind, .int .i64 nn, .int .i64 hs, .int .i64 hg, .string x] 67)).alloc (.cells #[.int .i64 0, .int .i64 0] 32)).alloc (.cells #[.int .i64 hs, .int .i64 hg] 32)).cell? ⟨w.heap.size, 5, none⟩ = some (.string x) := by simp [go_sem]
      have z0 : (((w.alloc (.cells #[.int .i64 who, .int .i64 kind, .int .i64 nn, .int .i64 hs, .int .i64 hg, .string x] 67)).alloc (.cells #[.int .i64 0, .int .i64 0] 32)).alloc (.cells #[.int .i64 hs, .int .i64 hg] 32)).cell? ⟨w.heap.size + 1, 0, none⟩ = some (.int .i64 0) := by simp [go_sem]
      have z1 : (((w.alloc (.cells #[.int .i64 who, .int .i64 kind, .int .i64 nn, .int .i64 hs, .int .i64 hg, .string x] 67)).alloc (.cells #[.int .i64 0, .int .i64 0] 32)).alloc (.cells #[.int .i64 hs, .int .i64 hg] 32)).cell? ⟨w.heap.size + 1, 1, none⟩ = some (.int .i64 0) := by simp [go_sem]
      have h0c : (((w.alloc (.cells #[.int .i64 who, .int .i64 kind, .int .i64 nn, .int .i64 hs, .int .i64 hg, .string x] 67)).alloc (.cells #[.int .i64 0, .int .i64 0] 32)).alloc (.cells #[.int .i64 hs, .int .i64 hg] 32)).cell? ⟨w.heap.size + 2, 0, none⟩ = some (.int .i64 hs) := by simp [go_sem]
      have h1c : (((w.alloc (.cells #[.int .i64 who, .int .i64 kind, .int .i64 nn, .int .i64 hs, .int .i64 hg, .string x] 67)).alloc (.cells #[.int .i64 0, .int .i64 0] 32)).alloc (.cells #[.int .i64 hs, .int .i64 hg] 32)).cell? ⟨w.heap.size + 2, 1, none⟩ = some (.int .i64 hg) := by simp [go_sem]
      have zf0 : (((w.alloc (.cells #[.int .i64 who, .int .i64 kind, .int .i64 nn, .int .i64 hs, .int .i64 hg, .string x] 67)).alloc (.cells #[.int .i64 0, .int .i64 0] 32)).alloc (.cells #[.int .i64 hs, .int .i64 hg] 32)).frozen? ⟨w.heap.size + 1, 0, none⟩ = false := by simp [go_sem]
      have zf1 : (((w.alloc (.cells #[.int .i64 who, .int .i64 kind, .int .i64 nn, .int .i64 hs, .int .i64 hg, .string x] 67)).alloc (.cells #[.int .i64 0, .int .i64 0] 32)).alloc (.cells #[.int .i64 hs, .int .i64 hg] 32)).frozen? ⟨w.heap.size + 1, 1, none⟩ = false := by simp [go_sem]
      have LX : w.heap.size + 2 < (((w.alloc (.cells #[.int .i64 who, .int .i64 kind, .int .i64 nn, .int .i64 hs, .int .i64 hg, .string x] 67)).alloc (.cells #[.int .i64 0, .int .i64 0] 32)).alloc (.cells #[.int .i64 hs, .int .i64 hg] 32)).heap.size := by simp
      have TT := bX
      have VX := HV.out.below bX
      have RX := HR.out.below bX
      clear bX 
      generalize (((w.alloc (.cells #[.int .i64 who, .int .i64 kind, .int .i64 nn, .int .i64 hs, .int .i64 hg, .string x] 67)).alloc (.cells #[.int .i64 0, .int .i64 0] 32)).alloc (.cells #[.int .i64 hs, .int .i64 hg] 32)) = X0 at *
      have hRc : R = 0 ∨ R = 1 ∨ R = 2 ∨ R = 3 ∨ R = 4 := by omega
      rcases hRc with rfl | rfl | rfl | rfl | rfl
      · go_wp2_with fail
        refine (put_void _ _ _ VX).mono ?_
        rintro e W ⟨rfl, z, rfl⟩
        have q5 := (z.h.cell (p := ⟨w.heap.size, 5, none⟩) (by show w.heap.size < _; omega)).trans q5
        have z0 := (z.h.cell (p := ⟨w.heap.size + 1, 0, none⟩) (by show w.heap.size + 1 < _; omega)).trans z0
        have z1 := (z.h.cell (p := ⟨w.heap.size + 1, 1, none⟩) (by show w.heap.size + 1 < _; omega)).trans z1
        have h0c := (z.h.cell (p := ⟨w.heap.size + 2, 0, none⟩) (by show w.heap.size + 2 < _; omega)).trans h0c
        have h1c := (z.h.cell (p := ⟨w.heap.size + 2, 1, none⟩) (by show w.heap.size + 2 < _; omega)).trans h1c
        have zf0 := (z.h.frozen (p := ⟨w.heap.size + 1, 0, none⟩) (by show w.heap.size + 1 < _; omega)).trans zf0
        have zf1 := (z.h.frozen (p := ⟨w.heap.size + 1, 1, none⟩) (by show w.heap.size + 1 < _; omega)).trans zf1
        have LX := Nat.lt_of_lt_of_le LX z.h.size
        have VX := VX.below z.h
        have RX := RX.below z.h
        have TT := TT.trans (z.h.mono (by omega))
        generalize z.i = X1 at *
        clear z
        have n1 : X1.heap.size + 1 ≠ w.heap.size + 1 := by omega
        have n2 : X1.heap.size ≠ w.heap.size + 1 := by omega
        have n3 : w.heap.size + 1 ≠ X1.heap.size + 1 := by omega
        have n4 : w.heap.size + 1 ≠ X1.heap.size := by omega
        have bA : Below X1.heap.size X1 ((X1.alloc (.cells #[.int .i64 0, .int .i64 0] 32)).alloc (.cells #[.int .i64 0, .int .i64 0] 32)) := ((Below.refl _ X1).alloc (Nat.le_refl _) _).alloc (by simp) _
        have p0 : ((X1.alloc (.cells #[.int .i64 0, .int .i64 0] 32)).alloc (.cells #[.int .i64 0, .int .i64 0] 32)).cell? ⟨X1.heap.size, 0, none⟩ = some (.int .i64 0) := by simp [go_sem]
        have r0 : ((X1.alloc (.cells #[.int .i64 0, .int .i64 0] 32)).alloc (.cells #[.int .i64 0, .int .i64 0] 32)).cell? ⟨X1.heap.size + 1, 0, none⟩ = some (.int .i64 0) := by simp [go_sem]
        have p1 : ((X1.alloc (.cells #[.int .i64 0, .int .i64 0] 32)).alloc (.cells #[.int .i64 0, .int .i64 0] 32)).cell? ⟨X1.heap.size, 1, none⟩ = some (.int .i64 0) := by simp [go_sem]
        have r1 : ((X1.alloc (.cells #[.int .i64 0, .int .i64 0] 32)).alloc (.cells #[.int .i64 0, .int .i64 0] 32)).cell? ⟨X1.heap.size + 1, 1, none⟩ = some (.int .i64 0) := by simp [go_sem]
        have q5 := (bA.cell (p := ⟨w.heap.size, 5, none⟩) (by show w.heap.size < _; omega)).trans q5
        have z0 := (bA.cell (p := ⟨w.heap.size + 1, 0, none⟩) (by show w.heap.size + 1 < _; omega)).trans z0
        have z1 := (bA.cell (p := ⟨w.heap.size + 1, 1, none⟩) (by show w.heap.size + 1 < _; omega)).trans z1
        have h0c := (bA.cell (p := ⟨w.heap.size + 2, 0, none⟩) (by show w.heap.size + 2 < _; omega)).trans h0c
        have h1c := (bA.cell (p := ⟨w.heap.size + 2, 1, none⟩) (by show w.heap.size + 2 < _; omega)).trans h1c
        have zf0 := (bA.frozen (p := ⟨w.heap.size + 1, 0, none⟩) (by show w.heap.size + 1 < _; omega)).trans zf0
        have zf1 := (bA.frozen (p := ⟨w.heap.size + 1, 1, none⟩) (by show w.heap.size + 1 < _; omega)).trans zf1
        have LX2 : w.heap.size + 2 < ((X1.alloc (.cells #[.int .i64 0, .int .i64 0] 32)).alloc (.cells #[.int .i64 0, .int .i64 0] 32)).heap.size := by simp; omega
        have TT := TT.trans (bA.mono (by omega))
        have l13 : X1.heap.size + 1 < ((X1.alloc (.cells #[.int .i64 0, .int .i64 0] 32)).alloc (.cells #[.int .i64 0, .int .i64 0] 32)).heap.size := by simp
        clear bA VX RX
        go_wp2_with fail
        generalize ((X1.alloc (.cells #[.int .i64 0, .int .i64 0] 32)).alloc (.cells #[.int .i64 0, .int .i64 0] 32)) = X2 at *
        generalize X1.heap.size = b13 at *
        go_region
        all_goals (try go_wp2_with fail)
        all_goals refine bodyPost_ret (v := .tuple #[.agg #[.int .i64 0, .int .i64 0], .bool true]) (by simp [results, Try.results22, go_sem, z0, z1]) rfl ⟨_, _, rfl, ?_, ?_⟩
        all_goals first | exact (fun _ => rfl) | exact (TT.drew.setCell (p := ⟨w.heap.size + 1, 0, none⟩) (by show w.heap.size ≤ w.heap.size + 1; omega) _).setCell (p := ⟨w.heap.size + 1, 1, none⟩) (by show w.heap.size ≤ w.heap.size + 1; omega) _
      · go_wp2_with fail
        refine (get_void _ hs hg _ VX).mono ?_
        rintro e W ⟨rfl, z, rfl⟩
        have q5 := (z.h.cell (p := ⟨w.heap.size, 5, none⟩) (by show w.heap.size < _; omega)).trans q5
        have z0 := (z.h.cell (p := ⟨w.heap.size + 1, 0, none⟩) (by show w.heap.size + 1 < _; omega)).trans z0
        have z1 := (z.h.cell (p := ⟨w.heap.size + 1, 1, none⟩) (by show w.heap.size + 1 < _; omega)).trans z1
        have h0c := (z.h.cell (p := ⟨w.heap.size + 2, 0, none⟩) (by show w.heap.size + 2 < _; omega)).trans h0c
        have h1c := (z.h.cell (p := ⟨w.heap.size + 2, 1, none⟩) (by show w.heap.size + 2 < _; omega)).trans h1c
        have zf0 := (z.h.frozen (p := ⟨w.heap.size + 1, 0, none⟩) (by show w.heap.size + 1 < _; omega)).trans zf0
        have zf1 := (z.h.frozen (p := ⟨w.heap.size + 1, 1, none⟩) (by show w.heap.size + 1 < _; omega)).trans zf1
        have LX := Nat.lt_of_lt_of_le LX z.h.size
        have VX := VX.below z.h
        have RX := RX.below z.h
        have TT := TT.trans (z.h.mono (by omega))
        generalize z.i = X1 at *
        clear z
        go_wp2_with fail
        refine (rget_miss B bm o v 0 [] hs hg _ RX (fun u hu => rfind_miss B bm o v 0 [] _ _ u hu (fun k e he => by simp at he) (by decide))).mono ?_
        rintro e W ⟨rfl, z, rfl⟩
        have q5 := (z.h.cell (p := ⟨w.heap.size, 5, none⟩) (by show w.heap.size < _; omega)).trans q5
        have z0 := (z.h.cell (p := ⟨w.heap.size + 1, 0, none⟩) (by show w.heap.size + 1 < _; omega)).trans z0
        have z1 := (z.h.cell (p := ⟨w.heap.size + 1, 1, none⟩) (by show w.heap.size + 1 < _; omega)).trans z1
        have h0c := (z.h.cell (p := ⟨w.heap.size + 2, 0, none⟩) (by show w.heap.size + 2 < _; omega)).trans h0c
        have h1c := (z.h.cell (p := ⟨w.heap.size + 2, 1, none⟩) (by show w.heap.size + 2 < _; omega)).trans h1c
        have zf0 := (z.h.frozen (p := ⟨w.heap.size + 1, 0, none⟩) (by show w.heap.size + 1 < _; omega)).trans zf0
        have zf1 := (z.h.frozen (p := ⟨w.heap.size + 1, 1, none⟩) (by show w.heap.size + 1 < _; omega)).trans zf1
        have LX := Nat.lt_of_lt_of_le LX z.h.size
        have VX := VX.below z.h
        have RX := RX.below z.h
        have TT := TT.trans (z.h.mono (by omega))
        generalize z.i = X2 at *
        clear z
        go_wp2_with fail
        refine bodyPost_ret (v := .tuple #[.agg #[.int .i64 hs, .int .i64 hg], .bool true]) (by simp [results, Try.results22, go_sem, z0, z1]) rfl ⟨_, _, rfl, ?_, ?_⟩
        · exact (TT.setCell (p := ⟨w.heap.size + 1, 0, none⟩) (by show w.heap.size ≤ w.heap.size + 1; omega) _).setCell (p := ⟨w.heap.size + 1, 1, none⟩) (by show w.heap.size ≤ w.heap.size + 1; omega) _
        · exact fun h => by omega
      · go_wp2_with fail
        refine (set_void _ hs hg x _ VX).mono ?_
        rintro e W ⟨rfl, z, rfl⟩
        have q5 := (z.h.cell (p := ⟨w.heap.size, 5, none⟩) (by show w.heap.size < _; omega)).trans q5
        have z0 := (z.h.cell (p := ⟨w.heap.size + 1, 0, none⟩) (by show w.heap.size + 1 < _; omega)).trans z0
        have z1 := (z.h.cell (p := ⟨w.heap.size + 1, 1, none⟩) (by show w.heap.size + 1 < _; omega)).trans z1
        have h0c := (z.h.cell (p := ⟨w.heap.size + 2, 0, none⟩) (by show w.heap.size + 2 < _; omega)).trans h0c
        have h1c := (z.h.cell (p := ⟨w.heap.size + 2, 1, none⟩) (by show w.heap.size + 2 < _; omega)).trans h1c
        have zf0 := (z.h.frozen (p := ⟨w.heap.size + 1, 0, none⟩) (by show w.heap.size + 1 < _; omega)).trans zf0
        have zf1 := (z.h.frozen (p := ⟨w.heap.size + 1, 1, none⟩) (by show w.heap.size + 1 < _; omega)).trans zf1
        have LX := Nat.lt_of_lt_of_le LX z.h.size
        have VX := VX.below z.h
        have RX := RX.below z.h
        have TT := TT.trans (z.h.mono (by omega))
        generalize z.i = X1 at *
        clear z
        go_wp2_with fail
        refine (rset_miss B bm o v 0 [] hs hg _ RX x (fun u hu => rfind_miss B bm o v 0 [] _ _ u hu (fun k e he => by simp at he) (by decide))).mono ?_
        rintro e W ⟨rfl, z, rfl⟩
        have q5 := (z.h.cell (p := ⟨w.heap.size, 5, none⟩) (by show w.heap.size < _; omega)).trans q5
        have z0 := (z.h.cell (p := ⟨w.heap.size + 1, 0, none⟩) (by show w.heap.size + 1 < _; omega)).trans z0
        have z1 := (z.h.cell (p := ⟨w.heap.size + 1, 1, none⟩) (by show w.heap.size + 1 < _; omega)).trans z1
        have h0c := (z.h.cell (p := ⟨w.heap.size + 2, 0, none⟩) (by show w.heap.size + 2 < _; omega)).trans h0c
        have h1c := (z.h.cell (p := ⟨w.heap.size + 2, 1, none⟩) (by show w.heap.size + 2 < _; omega)).trans h1c
        have zf0 := (z.h.frozen (p := ⟨w.heap.size + 1, 0, none⟩) (by show w.heap.size + 1 < _; omega)).trans zf0
        have zf1 := (z.h.frozen (p := ⟨w.heap.size + 1, 1, none⟩) (by show w.heap.size + 1 < _; omega)).trans zf1
        have LX := Nat.lt_of_lt_of_le LX z.h.size
        have VX := VX.below z.h
        have RX := RX.below z.h
        have TT := TT.trans (z.h.mono (by omega))
        generalize z.i = X2 at *
        clear z
        go_wp2_with fail
        refine bodyPost_ret (v := .tuple #[.agg #[.int .i64 hs, .int .i64 hg], .bool true]) (by simp [results, Try.results22, go_sem, z0, z1]) rfl ⟨_, _, rfl, ?_, ?_⟩
        · exact (TT.setCell (p := ⟨w.heap.size + 1, 0, none⟩) (by show w.heap.size ≤ w.heap.size + 1; omega) _).setCell (p := ⟨w.heap.size + 1, 1, none⟩) (by show w.heap.size ≤ w.heap.size + 1; omega) _
        · exact fun h => by omega
      · go_wp2_with fail
        refine (drop_void _ hs hg _ VX).mono ?_
        rintro e W ⟨rfl, z, rfl⟩
        have q5 := (z.h.cell (p := ⟨w.heap.size, 5, none⟩) (by show w.heap.size < _; omega)).trans q5
        have z0 := (z.h.cell (p := ⟨w.heap.size + 1, 0, none⟩) (by show w.heap.size + 1 < _; omega)).trans z0
        have z1 := (z.h.cell (p := ⟨w.heap.size + 1, 1, none⟩) (by show w.heap.size + 1 < _; omega)).trans z1
        have h0c := (z.h.cell (p := ⟨w.heap.size + 2, 0, none⟩) (by show w.heap.size + 2 < _; omega)).trans h0c
        have h1c := (z.h.cell (p := ⟨w.heap.size + 2, 1, none⟩) (by show w.heap.size + 2 < _; omega)).trans h1c
        have zf0 := (z.h.frozen (p := ⟨w.heap.size + 1, 0, none⟩) (by show w.heap.size + 1 < _; omega)).trans zf0
        have zf1 := (z.h.frozen (p := ⟨w.heap.size + 1, 1, none⟩) (by show w.heap.size + 1 < _; omega)).trans zf1
        have LX := Nat.lt_of_lt_of_le LX z.h.size
        have VX := VX.below z.h
        have RX := RX.below z.h
        have TT := TT.trans (z.h.mono (by omega))
        generalize z.i = X1 at *
        clear z
        go_wp2_with fail
        refine (rdrop_miss B bm o v 0 [] hs hg _ RX (fun u hu => rfind_miss B bm o v 0 [] _ _ u hu (fun k e he => by simp at he) (by decide))).mono ?_
        rintro e W ⟨rfl, z, rfl⟩
        have q5 := (z.h.cell (p := ⟨w.heap.size, 5, none⟩) (by show w.heap.size < _; omega)).trans q5
        have z0 := (z.h.cell (p := ⟨w.heap.size + 1, 0, none⟩) (by show w.heap.size + 1 < _; omega)).trans z0
        have z1 := (z.h.cell (p := ⟨w.heap.size + 1, 1, none⟩) (by show w.heap.size + 1 < _; omega)).trans z1
        have h0c := (z.h.cell (p := ⟨w.heap.size + 2, 0, none⟩) (by show w.heap.size + 2 < _; omega)).trans h0c
        have h1c := (z.h.cell (p := ⟨w.heap.size + 2, 1, none⟩) (by show w.heap.size + 2 < _; omega)).trans h1c
        have zf0 := (z.h.frozen (p := ⟨w.heap.size + 1, 0, none⟩) (by show w.heap.size + 1 < _; omega)).trans zf0
        have zf1 := (z.h.frozen (p := ⟨w.heap.size + 1, 1, none⟩) (by show w.heap.size + 1 < _; omega)).trans zf1
        have LX := Nat.lt_of_lt_of_le LX z.h.size
        have VX := VX.below z.h
        have RX := RX.below z.h
        have TT := TT.trans (z.h.mono (by omega))
        generalize z.i = X2 at *
        clear z
        go_wp2_with fail
        refine bodyPost_ret (v := .tuple #[.agg #[.int .i64 hs, .int .i64 hg], .bool true]) (by simp [results, Try.results22, go_sem, z0, z1]) rfl ⟨_, _, rfl, ?_, ?_⟩
        · exact (TT.setCell (p := ⟨w.heap.size + 1, 0, none⟩) (by show w.heap.size ≤ w.heap.size + 1; omega) _).setCell (p := ⟨w.heap.size + 1, 1, none⟩) (by show w.heap.size ≤ w.heap.size + 1; omega) _
        · exact fun h => by omega
      · have C1 := Lib.hid (fun (u : World) (hu : RefAt B u bm o v 0 []) => op_list (RInv.start 0) rfl (by decide) (by decide) u hu)
        have VXh := Lib.hid VX; have RXh := Lib.hid RX; have TTh := Lib.hid TT
        go_wp2_with fail
        go_region_with (first | (go_at_call 23; refine Calls.mono (C1.out _ (RXh.out.below (Below.refl _ _).drew)) ?_; rintro e W1 ⟨v1, rfl, b1, own1⟩; have bY := (Below.refl _ X0).drew.trans b1; have V1 := VXh.out.below bY; have h0d := (b1.cell (p := ⟨w.heap.size + 2, 0, none⟩) LX).trans h0c; have h1d := (b1.cell (p := ⟨w.heap.size + 2, 1, none⟩) LX).trans h1c) | (go_at_call 26; refine Calls.mono (has_void V1 own1) ?_; rintro e W2 ⟨rfl, z2, rfl⟩; have bz := b1.trans (z2.h.mono b1.size); have h0e := (bz.cell (p := ⟨w.heap.size + 2, 0, none⟩) LX).trans h0c; have h1e := (bz.cell (p := ⟨w.heap.size + 2, 1, none⟩) LX).trans h1c; have z0e := (bz.cell (p := ⟨w.heap.size + 1, 0, none⟩) (Nat.lt_of_succ_lt LX)).trans z0; have z1e := (bz.cell (p := ⟨w.heap.size + 1, 1, none⟩) (Nat.lt_of_succ_lt LX)).trans z1; have zf0e := (bz.frozen (p := ⟨w.heap.size + 1, 0, none⟩) (Nat.lt_of_succ_lt LX)).trans zf0; have zf1e := (bz.frozen (p := ⟨w.heap.size + 1, 1, none⟩) (Nat.lt_of_succ_lt LX)).trans zf1))
        all_goals (try go_wp2_with fail)
        all_goals refine bodyPost_ret (v := .tuple #[.agg #[.int .i64 (hs), .int .i64 (hg)], .bool true]) (by simp [results, Try.results22, go_sem, z0e, z1e]) rfl ⟨_, _, rfl, ?_, ?_⟩
        all_goals first | exact (fun h => by omega) | exact ((TTh.out.drew.trans (bz.mono (by show w.heap.size ≤ X0.heap.size; omega))).setCell (p := ⟨w.heap.size + 1, 0, none⟩) (by show w.heap.size ≤ w.heap.size + 1; omega) _).setCell (p := ⟨w.heap.size + 1, 1, none⟩) (by show w.heap.size ≤ w.heap.size + 1; omega) _
end

end Go.Proofs.Ytpnegofmebfcgaa
