/- Slab: the law's Once, walked. -/
import Derived.Test.YtpnegofmebfcgaaLv
import Derived.Test.YtpnegofmebfcgaaO2
import Derived.Test.YtpnegofmebfcgaaO3
import Derived.Test.YtpnegofmebfcgaaL3
import Derived.OwnWalk
import Derived.Deep.AppendLies
namespace Go.Proofs.Ytpnegofmebfcgaa
open Go.RowKit

/-- a world in which nothing but block g has changed, and P holds -/
structure GW (g : Nat) (P : World → Prop) (w : World) where
  i : World
  h : w.grownBy i (some g)
  p : P i
theorem GW.cell {g : Nat} {P : World → Prop} {w : World} (x : GW g P w) {p : Addr} (hp : p.block < w.heap.size) (hne : p.block ≠ g) : x.i.cell? p = w.cell? p :=
  x.h.cell_far p hp (fun e => hne (by injection e))
theorem wp_region_gw {P : Program} {id : Nat} {Q : Exit → Act → World → Prop} {a : Act} {l : List Oper} (g : Nat) (C : World → Prop) (W : World) (hC : C { W with drawn := W.drawn + 1 }) (hm : P.follows .mixedOrders = true) (hB : Region.lexB .any l.toArray = true)
    (h : wpQuiet P l.toArray (fun w' => ∃ x : GW g C W, w' = x.i) (fun a' => ∀ x : GW g C W, Q .normal a' x.i) l a) : (Code.region id l.toArray true).wp P Q a W :=
  wp_region_quiet (C := fun w' => ∃ x : GW g C W, w' = x.i) hm hB ⟨⟨{ W with drawn := W.drawn + 1 }, ⟨rfl, rfl, rfl, Nat.le_refl _, fun _ _ _ => rfl⟩, hC⟩, rfl⟩
    (by
      have e : (fun a' => ∀ w', (∃ x : GW g C W, w' = x.i) → Q .normal a' w') = fun a' => ∀ x : GW g C W, Q .normal a' x.i := by
        funext a'
        exact propext ⟨fun h x => h _ ⟨x, rfl⟩, fun h w' ⟨x, hx⟩ => hx ▸ h x⟩
      rw [e]
      simpa using h)
theorem set_gw {ps g : Nat} {W : World} (told : List (Int × Int)) (here : List Bool) {k : Nat} {p : Int × Int} (hp : told[k]? = some p) {b : Bool} (hb : here[k]? = some b) (z : Int) (y : GW g (fun u => ∃ l, SlabAt 120 u ps g l ∧ OInv l told here) W) :
    Calls Try.prog 38 #[.pointer (some ⟨ps, 0, none⟩), .agg #[.int .i64 p.1, .int .i64 p.2], .int .i64 z] y.i fun e w' => e = .returned (.bool b) ∧ ∃ y' : GW g (fun u => ∃ l, SlabAt 120 u ps g l ∧ OInv l told here) W, w' = y'.i := by
  obtain ⟨l, hS, I⟩ := y.p
  exact (set_told I hS hp hb z).mono fun e w' ⟨he, hg, l', hS', I'⟩ => ⟨he, ⟨w', y.h.trans hg, l', hS', I'⟩, rfl⟩
attribute [local go_sem] BW.cell BW.frozen GW.cell
set_option linter.unusedVariables false
set_option linter.unusedSimpArgs false

theorem Try.info32 : (Try.prog.info? 32).map (fun i => (i.zero, i.size, i.bytes)) = some (some (.agg #[.int .i64 0, .int .i64 0]), 2, 16) := by kernel_rfl
theorem Try.info4 : (Try.prog.info? 4).map (fun i => (i.zero, i.size, i.bytes)) = some (some (.bool false), 1, 1) := by kernel_rfl
theorem new_told (z : Int) (n : Nat) (w : World) (hz : z = n) (h1 : 1 ≤ n) (h2 : n ≤ 4096) :
    Calls Try.prog 32 #[.int .i64 z] w fun e w' => e = .returned (.tuple #[.pointer (some ⟨w.heap.size + 1, 0, none⟩), .int .i64 0]) ∧ Below w.heap.size w w' ∧ SlabAt 120 w' (w.heap.size + 1) w.heap.size (List.replicate n ⟨0, 0, false, .int .i64 0⟩) := by
  subst hz; exact newi_ok n w h1 h2
theorem grown_belowB {w w' : World} {B : Nat} {row : Option Nat} (h : w.grownBy w' row) (hr : ∀ g, row = some g → B ≤ g) (hB : B ≤ w.heap.size) : Below B w w' :=
  ⟨h.os, h.tape, h.output, h.size, fun k hk => h.block k (by omega) (fun e => by have := hr k e.symm; omega)⟩
theorem len_told' {l : List SL} {told : List (Int × Int)} {here : List Bool} {ps g : Nat} {w : World} (z : Int) (hz : z = ((l.filter (·.full)).length : Nat)) (h : OInv l told here) (hS : SlabAt 120 w ps g l) (hm : l.length ≤ 4096) (h0 : 0 < l.length) :
    Calls Try.prog 35 #[.pointer (some ⟨ps, 0, none⟩)] w (Turns 120 ps g (.int .i64 z) l w) := by subst hz; exact len_told h hS hm h0
theorem room_told' {l : List SL} {told : List (Int × Int)} {here : List Bool} {ps g : Nat} {w : World} (z : Int) (hz : z = (l.length : Int) - ((l.filter (·.full)).length : Nat)) (h : OInv l told here) (hS : SlabAt 120 w ps g l) (hm : l.length ≤ 4096) (h0 : 0 < l.length) :
    Calls Try.prog 36 #[.pointer (some ⟨ps, 0, none⟩)] w (Turns 120 ps g (.int .i64 z) l w) := by subst hz; exact room_told h hS hm h0
theorem filt0 (n : Nat) : ((List.replicate n (⟨0, 0, false, .int .i64 0⟩ : SL)).filter (·.full)).length = 0 := by
  induction n with
  | zero => rfl
  | succ n ih => rw [List.replicate_succ, List.filter_cons]; simp

set_option maxRecDepth 50000 in
set_option maxHeartbeats 16000000 in
theorem once_core (slots : Int) (A : Option Addr) (n c : Nat) (ops : List OpV) (w : World) (h : Rd OpV.cells 6 w w.heap.size A n ops) (hn : n ≤ 1048576) :
    Calls Try.prog 7 #[.int .i64 slots, .slice A n c] w (Gives (.bool true) w) := by
  have hr := rnd_in slots 40 (by decide)
  have hR := round_ok slots 40
  obtain ⟨r, hr'⟩ : ∃ r : Nat, rnd slots 40 = r := ⟨(rnd slots 40).toNat, by omega⟩
  rw [hr'] at hr hR
  clear hr'
  have hr2 : r < 40 := by omega
  have HR := Lib.hid hR
  have HH := Lib.hid h
  have hrnd := Lib.hid rnd_in
  clear hR h hr
  have hgb : w.heap.size ≤ w.heap.size := Nat.le_refl _
  go_enter Try.func7, Try.ntmps7
  go_wp2_with fail
  refine (HR.out w (by decide) (by decide)).mono ?_
  rintro e W ⟨rfl, rfl⟩
  go_wp2_with fail
  refine (new_told _ (r + 1) w (by omega) (by omega) (by omega)).mono ?_
  rintro e W0 ⟨rfl, bW0, hS0⟩
  have szW0 : w.heap.size + 2 ≤ W0.heap.size := hS0.pl
  have M0 : Mem 120 W0.heap.size (w.heap.size + 1) w.heap.size W0 (.slice none 0 0) (.slice none 0 0) _ [] [] := ⟨hS0, World.ownsRow_nil _ _ _ _, World.ownsRow_nil _ _ _ _, .inl rfl, by omega, by omega, Nat.le_refl _⟩
  go_wp2_with fail
  refine (Calls.turns hS0 (lives_ok _)).mono ?_
  rintro e W1 ⟨rfl, hg1, hS1⟩
  have M1 := M0.turn hg1 hS1
  have bW1 : Below w.heap.size w W1 := bW0.trans (grown_below' hg1 hgb bW0.size)
  clear hS0 M0 hg1 hS1
  generalize hB : W0.heap.size = B at *
  clear hB bW0 W0
  have I1 := OInv.start (r + 1)
  have fl := filt0 (r + 1)
  have ll : (List.replicate (r + 1) (⟨0, 0, false, .int .i64 0⟩ : SL)).length = r + 1 := List.length_replicate
  generalize List.replicate (r + 1) (⟨0, 0, false, .int .i64 0⟩ : SL) = l1 at *
  go_wp2_with fail
  go_loopw [7, 8, 9, 10] (fun v7 v8 v9 v wr => ∃ (k : Nat) (l : List SL) (told : List (Int × Int)) (here : List Bool), k ≤ n ∧ v = .int .i64 k ∧ v9 = .int .i64 (l.filter (·.full)).length ∧ l.length = r + 1 ∧ told.length ≤ k ∧ Mem 120 B (w.heap.size + 1) w.heap.size wr v7 v8 l told here ∧ OInv l told here ∧ Below w.heap.size w wr) (fun _ _ _ v _ => n - (intOf v).toNat)
  case atStart => exact ⟨0, l1, [], [], Nat.zero_le _, rfl, by rw [fl]; rfl, ll, Nat.le_refl _, M1, I1, bW1⟩
  case round =>
    obtain ⟨wo, rfl⟩ : ∃ wo : World, wo = wr := ⟨_, rfl⟩
    obtain ⟨k, l, told, here, hk, rfl, rfl, hl, htl, M, I, hb⟩ := hrel
    clear M1 I1 fl ll bW1
    have hfl := List.length_filter_le (fun x : SL => x.full) l
    have hm : l.length ≤ 4096 := by omega
    have h0 : 0 < l.length := by omega
    by_cases hlt : k < n
    · obtain ⟨b, off, rfl, hbl, hcell⟩ := HH.out.at_ (by omega)
      obtain ⟨o, ho⟩ : ∃ o, ops[k]? = some o := ⟨_, List.getElem?_eq_getElem (by rw [HH.out.len]; exact hlt)⟩
      have rd : ∀ (j : Nat) (v : Value), o.cells[j]? = some v → wo.cell? ⟨b, off + k * 6 + j, none⟩ = some v := fun j v hv => (hb.cell (p := ⟨b, off + k * 6 + j, none⟩) hbl).trans (hcell k o ho j v hv)
      have d0 := rd 0 _ rfl
      have d1 := rd 1 _ rfl
      have d2 := rd 2 _ rfl
      have d3 := rd 3 _ rfl
      have d4 := rd 4 _ rfl
      have d5 := rd 5 _ rfl
      rw [Nat.add_zero] at d0
      clear rd hcell
      obtain ⟨A7, c7, e7, hA7⟩ := M.len7
      have hk2 := hrnd.out o.kind 2 (by decide)
      have K2 := round_ok o.kind 2
      generalize rnd o.kind 2 = R2 at hk2 K2
      have K2 := Lib.hid K2
      have hcr : (((l.filter (·.full)).length : Nat) : Int) < 1 + (r : Int) ∨ ¬ (((l.filter (·.full)).length : Nat) : Int) < 1 + (r : Int) := Classical.em _
      go_wp2_with fail
      refine (K2.out _ (by decide) (by decide)).mono ?_
      rintro e W ⟨rfl, rfl⟩
      have MA := M.alloc (.cells #[.int .i64 o.who, .int .i64 o.kind, .int .i64 o.n, .int .i64 o.hs, .int .i64 o.hg, .string o.x] 67)
      by_cases hz : R2 = 0
      · subst hz
        go_wp2_with fail
        rcases hcr with hcr | hcr
        · obtain ⟨i, s, hs, hf, hi, hll, hcc, hC⟩ := put_room I MA.slab hm (by omega) (by omega) (k : Int)
          refine hC.mono ?_
          rintro e W2 ⟨rfl, hg2, hS2⟩
          have M2 := MA.turn hg2 hS2
          have q0 : (W2.alloc (.cells #[.int .i64 (i : Int), .int .i64 (s.gen + 1)] 32)).cell? ⟨W2.heap.size, 0, none⟩ = some (.int .i64 (i : Int)) := by simp [go_sem]
          have q1 : (W2.alloc (.cells #[.int .i64 (i : Int), .int .i64 (s.gen + 1)] 32)).cell? ⟨W2.heap.size, 1, none⟩ = some (.int .i64 (s.gen + 1)) := by simp [go_sem]
          have bx' : W2.heap.size < (W2.alloc (.cells #[.int .i64 (i : Int), .int .i64 (s.gen + 1)] 32)).heap.size := by simp
          have M3 := M2.alloc (.cells #[.int .i64 (i : Int), .int .i64 (s.gen + 1)] 32)
          have bA : Below w.heap.size w (wo.alloc (.cells #[.int .i64 o.who, .int .i64 o.kind, .int .i64 o.n, .int .i64 o.hs, .int .i64 o.hg, .string o.x] 67)) := hb.alloc hb.size _
          have b2 : Below w.heap.size w W2 := bA.trans (grown_below' hg2 hgb bA.size)
          have b3 : Below w.heap.size w (W2.alloc (.cells #[.int .i64 (i : Int), .int .i64 (s.gen + 1)] 32)) := b2.alloc b2.size _
          clear bA b2 hg2 hS2 M2 MA M d0 d1 d2 d3 d4 d5
          go_wp2_with fail
          generalize W2.alloc (.cells #[.int .i64 (i : Int), .int .i64 (s.gen + 1)] 32) = W3 at *
          generalize W2.heap.size = bx at *
          clear W2
          subst e7
          go_loopw [14] (fun v wr => ∃ j : Nat, j ≤ told.length ∧ v = .int .i64 j ∧ Below W3.heap.size W3 wr) (fun v _ => told.length - (intOf v).toNat)
          case atStart => exact ⟨0, Nat.zero_le _, rfl, Below.refl _ _⟩
          case round =>
            obtain ⟨j, hj, rfl, hbj⟩ := hrel
            by_cases hjl : j < told.length
            · obtain ⟨p, hp⟩ : ∃ p, told[j]? = some p := ⟨_, List.getElem?_eq_getElem hjl⟩
              obtain ⟨k7, c7', e7, a0, a1, lt7, _⟩ := M3.at7 hp
              injection e7 with e7 _ e7'
              subst e7 e7'
              obtain ⟨hh, hhh⟩ : ∃ x, here[j]? = some x := ⟨_, List.getElem?_eq_getElem (by rw [I.len]; exact hjl)⟩
              obtain ⟨k8, c8', e8, a2, _, lt8, _⟩ := M3.at8 hhh
              subst e8
              have hnw := I.new hs j p hp
              have hgn := I.gone hs hf j p hp
              obtain ⟨p1, p2⟩ := p
              have hjh : j < here.length := by rw [I.len]; exact hjl
              simp only at a0 a1 hnw hgn
              by_cases e1 : p1 = i
              · subst e1
                have e2 : (p2 == s.gen + 1) = false := by
                  simp only [beq_eq_false_iff_ne]; intro e2; exact hnw (by rw [e2])
                rw [hgn rfl] at hhh
                cases hhh
                go_wp2_with fail
                refine wp_region_bw W3.heap.size W3 hbj (by kernel_rfl) (by kernel_rfl) ?_
                repeat (go_big_quiet_step (fail))
                refine wpQuiet_nil ?_
                intro x
                go_wp2_with fail
                go_roundw
                case rel => exact ⟨j + 1, by omega, by go_num, x.h⟩
                case measure => simp [intOf]; omega
              · have e2 : (p1 == (i : Int)) = false := by
                  simp only [beq_eq_false_iff_ne]; exact e1
                go_wp2_with fail
                refine wp_region_bw W3.heap.size W3 hbj (by kernel_rfl) (by kernel_rfl) ?_
                repeat (go_big_quiet_step (fail))
                refine wpQuiet_nil ?_
                intro x
                go_wp2_with fail
                go_roundw
                case rel => exact ⟨j + 1, by omega, by go_num, x.h⟩
                case measure => simp [intOf]; omega
            · obtain rfl : j = told.length := by omega
              have M4 := M3.below hbj
              have q0' := (hbj.cell (p := ⟨bx, 0, none⟩) bx').trans q0
              have q1' := (hbj.cell (p := ⟨bx, 1, none⟩) bx').trans q1
              have B4 := b3.trans (hbj.mono b3.size)
              clear hbj q0 q1 M3 b3 bx'
              obtain ⟨i0, hi0, hz0, hz1, hz2⟩ := info_parts Try.info32
              obtain ⟨j0, hj0, jz0, jz1, jz2⟩ := info_parts Try.info4
              have hlen := I.len
              go_wp2_with (first | (at_builtin; refine wpList_append_lies _ rfl _ _ 29 (by rfl) B 32 i0 (.agg #[.int .i64 0, .int .i64 0]) 2 16 Try.underlying29 hi0 hz0 hz1 hz2 rfl (by decide) _ told.length (hcells told) (by rfl) (M4.alloc _).r7 ⟨wr.heap.size, 0, none⟩ 1 1 [.int .i64 (i : Int), .int .i64 (s.gen + 1)] (by rfl) rfl (World.news_of_block (heap_alloc_new wr _)) (by intro u hu; simp at hu; rcases hu with rfl | rfl <;> rfl) (by decide) (by unfold maxLen; omega) (by omega) (M4.alloc _).low.2.2 (wr.heap.size + 1) (by simp) ?_; intro k7 c7' W5 own5 grow5 at5 lt5; have M5 := (M4.alloc _).app7 own5 grow5 (at5.imp id (fun e => by rw [e]; simp)); have B5 := (B4.alloc B4.size _).trans (grown_belowB grow5 (fun k hk => by have := (M4.r7.lt k hk).1; omega) (Nat.le_trans B4.size (by simp)))) | (at_builtin; refine wpList_append_lies _ rfl _ _ 30 (by rfl) B 4 j0 (.bool false) 1 1 Try.underlying30 hj0 jz0 jz1 jz2 rfl (by decide) _ here.length (here.map Value.bool) (by rfl) (M5.alloc _).r8 ⟨W5.heap.size, 0, none⟩ 1 1 [.bool true] (by rfl) rfl (World.news_of_block (heap_alloc_new W5 _)) (by intro u hu; simp at hu; subst hu; rfl) (by decide) (by unfold maxLen; omega) (by omega) (M5.alloc _).low.2.2 (W5.heap.size + 1) (by simp) ?_; intro k8 c8' W6 own6 grow6 at6 lt6; have M6 := (M5.alloc _).app8 own6 grow6 (at6.imp id (fun e => by rw [e]; simp)); have B6 := (B5.alloc B5.size _).trans (grown_belowB grow6 (fun k hk => by have := (M5.r8.lt k hk).1; omega) (Nat.le_trans B5.size (by simp)))))
              have I6 := I.put hs hf (k : Int)
              rw [hlen] at M6
              clear own5 own6 grow5 grow6 at5 at6 lt5 lt6 M4 M5 B4 B5 hi0 hz0 hz1 hz2 hj0 jz0 jz1 jz2 q0' q1' hC
              generalize hl' : l.set i _ = l' at *
              refine (len_told' (((l.filter (·.full)).length : Int) + 1) (by omega) I6 M6.slab (by omega) (by omega)).mono ?_
              rintro e W7 ⟨rfl, hg7, hS7⟩
              have M7 := M6.turn hg7 hS7
              have B7 := B6.trans (grown_below' hg7 hgb B6.size)
              go_wp2_with fail
              refine (room_told' (1 + (r : Int) - (((l.filter (·.full)).length : Int) + 1)) (by omega) I6 M7.slab (by omega) (by omega)).mono ?_
              rintro e W8 ⟨rfl, hg8, hS8⟩
              have M8 := M7.turn hg8 hS8
              have B8 := B7.trans (grown_below' hg8 hgb B7.size)
              go_wp2_with fail
              go_roundw
              case rel => exact ⟨k + 1, l', told ++ [((i : Int), s.gen + 1)], here ++ [true], by omega, by go_num, by rw [hcc]; rfl, by omega, by simp; omega, M8, I6, B8⟩
              case measure => simp [intOf]; omega
        · subst e7
          refine (put_none MA.slab hm h0 (by omega) (k : Int)).mono ?_
          rintro e W2 ⟨rfl, hg2, hS2⟩
          have M6 := (MA.turn hg2 hS2).alloc (.cells #[.int .i64 0, .int .i64 0] 32)
          have bA : Below w.heap.size w (wo.alloc (.cells #[.int .i64 o.who, .int .i64 o.kind, .int .i64 o.n, .int .i64 o.hs, .int .i64 o.hg, .string o.x] 67)) := hb.alloc hb.size _
          have b2 : Below w.heap.size w W2 := bA.trans (grown_below' hg2 hgb bA.size)
          have B6 : Below w.heap.size w (W2.alloc (.cells #[.int .i64 0, .int .i64 0] 32)) := b2.alloc b2.size _
          clear bA b2 hg2 hS2
          go_wp2_with fail
          refine (len_told' (((l.filter (·.full)).length : Int)) (by omega) I M6.slab (by omega) (by omega)).mono ?_
          rintro e W7 ⟨rfl, hg7, hS7⟩
          have M7 := M6.turn hg7 hS7
          have B7 := B6.trans (grown_below' hg7 hgb B6.size)
          go_wp2_with fail
          refine (room_told' (1 + (r : Int) - ((l.filter (·.full)).length : Int)) (by omega) I M7.slab (by omega) (by omega)).mono ?_
          rintro e W8 ⟨rfl, hg8, hS8⟩
          have M8 := M7.turn hg8 hS8
          have B8 := B7.trans (grown_below' hg8 hgb B7.size)
          go_wp2_with fail
          go_roundw
          case rel => exact ⟨k + 1, l, told, here, by omega, by go_num, rfl, by omega, by omega, M8, I, B8⟩
          case measure => simp [intOf]; omega
      · have hz2 : (R2 == 0) = false := by simpa using hz
        have bA : Below w.heap.size w (wo.alloc (.cells #[.int .i64 o.who, .int .i64 o.kind, .int .i64 o.n, .int .i64 o.hs, .int .i64 o.hg, .string o.x] 67)) := hb.alloc hb.size _
        subst e7
        by_cases ht0 : told.length = 0
        · have ht1 : told = [] := List.eq_nil_of_length_eq_zero ht0
          subst ht1
          go_wp2_with fail
          refine (len_told' (((l.filter (·.full)).length : Int)) (by omega) I MA.slab (by omega) (by omega)).mono ?_
          rintro e W7 ⟨rfl, hg7, hS7⟩
          have M7 := MA.turn hg7 hS7
          have B7 := bA.trans (grown_below' hg7 hgb bA.size)
          go_wp2_with fail
          refine (room_told' (1 + (r : Int) - ((l.filter (·.full)).length : Int)) (by omega) I M7.slab (by omega) (by omega)).mono ?_
          rintro e W8 ⟨rfl, hg8, hS8⟩
          have M8 := M7.turn hg8 hS8
          have B8 := B7.trans (grown_below' hg8 hgb B7.size)
          go_wp2_with fail
          go_roundw
          case rel => exact ⟨k + 1, l, [], here, by omega, by go_num, rfl, by omega, by omega, M8, I, B8⟩
          case measure => simp [intOf]; omega
        · have hk3 := hrnd.out o.n told.length (by omega)
          have K3 := round_ok o.n told.length
          obtain ⟨j, hj⟩ : ∃ j : Nat, rnd o.n told.length = j := ⟨(rnd o.n told.length).toNat, by omega⟩
          rw [hj] at hk3 K3
          clear hj
          have K3 := Lib.hid K3
          have hjl : j < told.length := by omega
          have htp : decide (0 < (told.length : Int)) = true := decide_eq_true (by omega)
          obtain ⟨p, hp⟩ : ∃ p, told[j]? = some p := ⟨_, List.getElem?_eq_getElem hjl⟩
          obtain ⟨bb, hbb⟩ : ∃ x, here[j]? = some x := ⟨_, List.getElem?_eq_getElem (by rw [I.len]; exact hjl)⟩
          obtain ⟨k7, c7', e7, a0, a1, lt7, _⟩ := MA.at7 hp
          injection e7 with e7 _ e7'
          subst e7 e7'
          obtain ⟨k8, c8', e8, a2, f2, lt8, _⟩ := MA.at8 hbb
          subst e8
          have hjh : j < here.length := by rw [I.len]; exact hjl
          go_wp2_with fail
          refine (K3.out _ (by omega) (by omega)).mono ?_
          rintro e W ⟨rfl, rfl⟩
          go_wp2_with fail
          refine (drop_told I MA.slab hp hbb).mono ?_
          rintro e W2 ⟨x, l', rfl, hg2, hS2, I2, hll, hcc⟩
          have M2 := MA.turn hg2 hS2
          have B2 := bA.trans (grown_below' hg2 hgb bA.size)
          obtain ⟨q0, q1⟩ := M2.c8 hbb
          have M6 := M2.store8 j false
          have bl8 := M2.bl8
          have B6 := B2.setCell (p := ⟨k8, j, none⟩) (by show w.heap.size ≤ k8; omega) (.bool false)
          clear a0 a1 a2 f2 hg2 hS2 d0 d1 d2 d3 d4 d5
          cases bb
          · simp only [Bool.false_eq_true, if_false, Nat.add_zero] at hcc
            go_wp2_with fail
            refine (len_told' (((l.filter (·.full)).length : Int)) (by omega) I2 M6.slab (by omega) (by omega)).mono ?_
            rintro e W7 ⟨rfl, hg7, hS7⟩
            have M7 := M6.turn hg7 hS7
            have B7 := B6.trans (grown_below' hg7 hgb B6.size)
            go_wp2_with fail
            refine (room_told' (1 + (r : Int) - ((l.filter (·.full)).length : Int)) (by omega) I2 M7.slab (by omega) (by omega)).mono ?_
            rintro e W8 ⟨rfl, hg8, hS8⟩
            have M8 := M7.turn hg8 hS8
            have B8 := B7.trans (grown_below' hg8 hgb B7.size)
            go_wp2_with fail
            go_roundw
            case rel => exact ⟨k + 1, l', told, here.set j false, by omega, by go_num, by rw [hcc], by omega, by omega, M8, I2, B8⟩
            case measure => simp [intOf]; omega
          · simp only [if_true] at hcc
            go_wp2_with fail
            refine (len_told' (((l.filter (·.full)).length : Int) - 1) (by omega) I2 M6.slab (by omega) (by omega)).mono ?_
            rintro e W7 ⟨rfl, hg7, hS7⟩
            have M7 := M6.turn hg7 hS7
            have B7 := B6.trans (grown_below' hg7 hgb B6.size)
            go_wp2_with fail
            refine (room_told' (1 + (r : Int) - (((l.filter (·.full)).length : Int) - 1)) (by omega) I2 M7.slab (by omega) (by omega)).mono ?_
            rintro e W8 ⟨rfl, hg8, hS8⟩
            have M8 := M7.turn hg8 hS8
            have B8 := B7.trans (grown_below' hg8 hgb B7.size)
            go_wp2_with fail
            go_roundw
            case rel => exact ⟨k + 1, l', told, here.set j false, by omega, by go_num, by congr 1; omega, by omega, by omega, M8, I2, B8⟩
            case measure => simp [intOf]; omega
    · obtain rfl : k = n := by omega
      obtain ⟨A7, c7, e7, hA7⟩ := M.len7
      subst e7
      go_wp2_with fail
      go_loopw [18] (fun v wr => ∃ (j : Nat) (l' : List SL), j ≤ told.length ∧ v = .int .i64 j ∧ Mem 120 B (w.heap.size + 1) w.heap.size wr (.slice A7 told.length c7) u8 l' told here ∧ OInv l' told here ∧ Below w.heap.size w wr) (fun v _ => told.length - (intOf v).toNat)
      case atStart => exact ⟨0, l, Nat.zero_le _, rfl, M, I, hb⟩
      case round =>
        obtain ⟨j, l', hj, rfl, M2, I2, b2⟩ := hrel
        clear M I
        by_cases hjl : j < told.length
        · obtain ⟨p, hp⟩ : ∃ p, told[j]? = some p := ⟨_, List.getElem?_eq_getElem hjl⟩
          obtain ⟨bb, hbb⟩ : ∃ x, here[j]? = some x := ⟨_, List.getElem?_eq_getElem (by rw [I2.len]; exact hjl)⟩
          have hjh : j < here.length := by rw [I2.len]; exact hjl
          obtain ⟨k7, c7', e7, a0, a1, lt7, ne7⟩ := M2.at7 hp
          injection e7 with e7 _ e7'
          subst e7 e7'
          obtain ⟨k8, c8', e8, a2, f2, lt8, ne8⟩ := M2.at8 hbb
          subst e8
          obtain ⟨x0, hget⟩ := get_told I2 M2.slab hp hbb
          go_wp2_with fail
          refine hget.mono ?_
          rintro e W3 ⟨rfl, z3, rfl⟩
          have M3 := M2.below z3.h
          have B3 := b2.trans (z3.h.mono b2.size)
          generalize z3.i = W3 at *
          clear z3 hget a0 a1 a2 f2 lt7 lt8 M2 b2
          obtain ⟨a0, a1⟩ := M3.c7 hp
          obtain ⟨a2, f2⟩ := M3.c8 hbb
          have lt7 : k7 < W3.heap.size := World.block_lt_of_cell? W3 _ a0
          have lt8 : k8 < W3.heap.size := World.block_lt_of_cell? W3 _ a2
          have hne : Nonempty (GW w.heap.size (fun u => ∃ l'', SlabAt 120 u (w.heap.size + 1) w.heap.size l'' ∧ OInv l'' told here) W3) := ⟨⟨W3, ⟨rfl, rfl, rfl, Nat.le_refl _, fun _ _ _ => rfl⟩, ⟨l', M3.slab, I2⟩⟩⟩
          have SG := Lib.hid (fun (y : GW w.heap.size (fun u => ∃ l'', SlabAt 120 u (w.heap.size + 1) w.heap.size l'' ∧ OInv l'' told here) W3) => set_gw told here hp hbb (-1) y)
          go_wp2_with fail
          refine wp_region_gw w.heap.size (fun u => ∃ l'', SlabAt 120 u (w.heap.size + 1) w.heap.size l'' ∧ OInv l'' told here) W3 ⟨l', ⟨M3.slab.ptr, M3.slab.blk, M3.slab.ne⟩, I2⟩ (by kernel_rfl) (by kernel_rfl) ?_
          repeat (go_big_quiet_step ((go_at_call 38; exact SG.out _)))
          refine wpQuiet_nil ?_
          intro y
          obtain ⟨l3, hS3, I3⟩ := y.p
          have M4 := M3.turn y.h hS3
          have B4 := B3.trans (grown_below' y.h hgb B3.size)
          generalize y.i = W4 at *
          go_wp2_with fail
          go_roundw
          case rel => exact ⟨j + 1, l3, by omega, by go_num, M4, I3, B4⟩
          case measure => simp [intOf]; omega
        · obtain rfl : j = told.length := by omega
          go_wp2
          go_ret
          exact gives_of_eq rfl b2
end Go.Proofs.Ytpnegofmebfcgaa
