/- Slab: the law's Ranges, walked. -/
import Derived.Test.YtpnegofmebfcgaaV5
import Derived.Deep.LoopGhost
import Derived.Deep.RegionHeld3
import Derived.Stop.RegionWithIn
namespace Go.Proofs.Ytpnegofmebfcgaa
open Go.RowKit Go.Shelf
attribute [local go_sem] BW.cell BW.frozen Oper.semAt_some
set_option linter.unusedVariables false
set_option linter.unusedSimpArgs false

def strs (k : ByteArray) : List Value := [.string k]
theorem new_r (n0 : Nat) (z : Int) (n : Nat) (w : World) (h : w.heap.size = n0 + 2) (hz : z = n) (h1 : 1 ≤ n) (h2 : n ≤ 4096) : Calls Try.prog 20 #[.int .i64 z] w fun e w' => e = .returned (.tuple #[.pointer (some ⟨n0 + 3, 0, none⟩), .int .i64 0]) ∧ Below (n0 + 2) w w' ∧ SlabAt 111 w' (n0 + 3) (n0 + 2) (List.replicate n ⟨0, 0, false, .string .empty⟩) := by
  subst hz
  have := news_ok n w h1 h2
  rw [h] at this
  exact this
theorem rnew_r (z : Int) (n : Nat) (w : World) (hz : z = n) (h1 : 1 ≤ n) (h2 : n ≤ 4096) : Calls Try.prog 21 #[.int .i64 z] w (Gives (.tuple #[.agg #[.int .i64 (n : Int), .slice none 0 0], .int .i64 0]) w) := by
  subst hz
  exact rnew_ok n w (by omega) (by omega)
set_option maxRecDepth 50000 in
set_option maxHeartbeats 32000000 in
theorem ranges_core (slots : Int) (A1 : Option Addr) (n1 c1 : Nat) (A2 : Option Addr) (n2 c2 : Nat) (A3 : Option Addr) (n3 c3 : Nat) (xs : List ByteArray) (ds : List Int) (ops : List OpV) (w : World)
    (h1 : Rd strs 1 w w.heap.size A1 n1 xs) (h2 : Rd ints 1 w w.heap.size A2 n2 ds) (h3 : Rd OpV.cells 6 w w.heap.size A3 n3 ops) (hn1 : n1 ≤ 9223372036854775807) (hn3 : n3 ≤ 9223372036854775807) (hn2 : n2 ≤ 9223372036854775807) :
    Calls Try.prog 6 #[.int .i64 slots, .slice A1 n1 c1, .slice A2 n2 c2, .slice A3 n3 c3] w (Gives (.bool true) w) := by
  have hr := rnd_in slots 64 (by decide)
  have hR := round_ok slots 64
  obtain ⟨r, hr'⟩ : ∃ r : Nat, rnd slots 64 = r := ⟨(rnd slots 64).toNat, by omega⟩
  rw [hr'] at hr hR
  clear hr'
  have hr2 : r < 64 := by omega
  have HR := Lib.hid hR
  have H1 := Lib.hid h1
  have H2 := Lib.hid h2
  have H3 := Lib.hid h3
  have hrnd := Lib.hid rnd_in
  clear hR h1 h2 h3 hr
  have hnil := fnil_s
  refine (callsIn_wide (n := 3)).1 ?_
  refine callsIn_of_wp_marks Try.func6 rfl trivial ?_ rfl
  simp only [Try.ntmps6, List.size_toArray, List.length_cons, List.length_nil, Nat.reduceAdd, Nat.reduceSub, Array.replicate_succ, Array.replicate_zero, List.push_toArray, List.append_toArray, List.nil_append, List.cons_append]
  refine wpIn_wide.2 ?_
  go_wp2_with fail
  refine (HR.out _ (by decide) (by decide)).mono ?_
  rintro e W ⟨rfl, rfl⟩
  go_wp2_with fail
  refine (new_r w.heap.size _ (r + 1) _ (by simp) (by omega) (by omega) (by omega)).mono ?_
  rintro e W0 ⟨rfl, b0, hS0⟩
  have bN0 : Boxed W0 w.heap.size 52 (.slice A3 n3 c3) := ((b0.block w.heap.size (by omega)).trans (Below.heap_alloc _ _ _ (by simp))).trans (heap_alloc_new w _)
  have bR0 : Boxed W0 (w.heap.size + 1) 4 (.bool false) := by
    have := heap_alloc_new (w.alloc (.cells #[.slice A3 n3 c3] 52)) (.cells #[.bool false] 4)
    rw [World.size_alloc] at this
    exact (b0.block (w.heap.size + 1) (by omega)).trans this
  have bW0 : Below w.heap.size w W0 := (((Below.refl _ w).alloc (Nat.le_refl _) _).alloc (by simp) _).trans (b0.mono (by omega))
  clear b0
  go_wp2_with fail
  have bS9 := Boxed.new W0 53 (.pointer (some ⟨w.heap.size + 3, 0, none⟩))
  have bN1 := bN0.alloc (.cells #[.pointer (some ⟨w.heap.size + 3, 0, none⟩)] 53)
  have bR1 := bR0.alloc (.cells #[.pointer (some ⟨w.heap.size + 3, 0, none⟩)] 53)
  have hS1 := hS0.alloc (.cells #[.pointer (some ⟨w.heap.size + 3, 0, none⟩)] 53)
  have bW1 := bW0.alloc bW0.size (.cells #[.pointer (some ⟨w.heap.size + 3, 0, none⟩)] 53)
  have sz0 := hS0.pl
  clear bN0 bR0 hS0 bW0
  generalize W0.alloc (.cells #[.pointer (some ⟨w.heap.size + 3, 0, none⟩)] 53) = W1 at *
  generalize W0.heap.size = b9 at *
  clear W0
  refine (rnew_r _ (r + 1) _ (by omega) (by omega) (by omega)).mono ?_
  rintro e W' ⟨rfl, z, rfl⟩
  have bS9 : Boxed z.i b9 53 _ := (z.h.block _ bS9.lt).trans bS9
  have bN1 : Boxed z.i w.heap.size 52 _ := (z.h.block _ bN1.lt).trans bN1
  have bR1 : Boxed z.i (w.heap.size + 1) 4 _ := (z.h.block _ bR1.lt).trans bR1
  have hS1 := hS1.below z.h
  have bW1 := bW1.trans (z.h.mono bW1.size)
  generalize z.i = W2 at *
  clear z
  have l9 := bS9.lt
  have c9 := bS9.cell
  go_wp2_with fail
  refine (allof_b _ (W2.heap.size + 1) _ (by simp)).mono ?_
  rintro e W' ⟨rfl, rfl⟩
  go_wp2_with fail
  obtain ⟨WX, hWX⟩ : ∃ WX, WX = ((W2.alloc (.cells #[.int .i64 ((r : Int) + 1), .slice none 0 0] 58)).alloc (.cells #[.pointer (some ⟨w.heap.size + 3, 0, none⟩)] 53)).alloc (.cells #[.slice none 0 0] 29) := ⟨_, rfl⟩
  obtain ⟨l0, hl0⟩ : ∃ l0 : List SL, l0 = List.replicate (r + 1) ⟨0, 0, false, .string .empty⟩ := ⟨_, rfl⟩
  have ll0 : l0.length = r + 1 := by rw [hl0]; exact List.length_replicate
  have I0 : RInv l0 [] := by rw [hl0]; exact RInv.start _
  obtain ⟨BB, hBB⟩ : ∃ BB, BB = W2.heap.size + 3 := ⟨_, rfl⟩
  rw [← hl0] at hS1
  clear hl0
  have rm : RM w.heap.size BB b9 W2.heap.size (W2.heap.size + 1) (W2.heap.size + 2) (.slice A3 n3 c3) WX (.slice none 0 0) (.slice none 0 0) (.slice none 0 0) (r + 1) l0 [] [] := by
    rw [hWX]
    have e1 : ((r + 1 : Nat) : Int) = (r : Int) + 1 := by omega
    refine ⟨((hS1.alloc _).alloc _).alloc _, ⟨?_, ?_, ?_, World.ownsRow_nil _ _ _ _, by omega, by simp; omega⟩, ((bN1.alloc _).alloc _).alloc _, ((bR1.alloc _).alloc _).alloc _, ((bS9.alloc _).alloc _).alloc _, ?_, ?_, World.ownsRow_nil _ _ _ _, .inl rfl, by omega, by omega, by omega, by omega, by omega, by simp; omega⟩
    · rw [e1]; simp [go_sem]
    · simp [go_sem]
    · simp [go_sem]
    · have := (Boxed.new (W2.alloc (.cells #[.int .i64 ((r : Int) + 1), .slice none 0 0] 58)) 53 (.pointer (some ⟨w.heap.size + 3, 0, none⟩))).alloc (.cells #[.slice none 0 0] 29)
      simpa using this
    · have := Boxed.new ((W2.alloc (.cells #[.int .i64 ((r : Int) + 1), .slice none 0 0] 58)).alloc (.cells #[.pointer (some ⟨w.heap.size + 3, 0, none⟩)] 53)) 29 (.slice none 0 0)
      simpa using this
  have bw : Below w.heap.size w WX := by
    rw [hWX]
    have := bW1.size
    exact ((bW1.alloc bW1.size _).alloc (by simp; omega) _).alloc (by simp; omega) _
  rw [← hWX]
  clear hWX hBB bN1 bR1 bS9 hS1 bW1 l9 c9
  generalize W2.heap.size = bm at *
  clear W2
  obtain ⟨i2, hi2, iz0, iz1, iz2⟩ := info_parts Try.info32
  go_loopg [15] n1 (fun gk v wr => ∃ (k : Nat) (l : List SL) (all : List HV) (told : List (Int × Int)) (v14 vr : Value), k + gk = n1 ∧ v = .int .i64 k ∧ RM w.heap.size BB b9 bm (bm + 1) (bm + 2) (.slice A3 n3 c3) wr v14 v14 vr (r + 1) l all told ∧ RInv l all ∧ l.length = r + 1 ∧ Alive all ∧ told.length ≤ all.length ∧ Below w.heap.size w wr)
  case atStart => exact ⟨0, l0, [], [], _, _, by omega, rfl, rm, I0, ll0, (fun x hx => by cases hx), Nat.le_refl _, bw⟩
  case round =>
    clear rm I0 ll0 bw WX l0
    obtain ⟨wo, rfl⟩ : ∃ wo : World, wo = wr := ⟨_, rfl⟩
    obtain ⟨k, l, all, told, v14, vr, hk, rfl, R, I, hl, hA, htl, hb⟩ := hrel
    have hal : all.length ≤ r + 1 := by have := alive_len I hA; omega
    have HA := Lib.hid hA
    clear hA
    have c9 := R.b9_.cell
    have l9 := R.b9_.lt
    have c14 := R.b14_.cell
    have f14 := R.b14_.frozen
    have l14 := R.b14_.lt
    have ord := R.ord
    by_cases hlt : k < n1
    · obtain ⟨bx, off, rfl, hbx, hat⟩ := H1.out.at_ (by omega)
      obtain ⟨x, hx⟩ : ∃ x, xs[k]? = some x := ⟨_, List.getElem?_eq_getElem (by rw [H1.out.len]; exact hlt)⟩
      have hcx : ∀ u : World, Below w.heap.size w u → u.cell? ⟨bx, off + k, none⟩ = some (.string x) := fun u hu => by
        have := (hu.cell (p := ⟨bx, off + k * 1 + 0, none⟩) hbx).trans (hat k x hx 0 _ rfl)
        rwa [Nat.mul_one, Nat.add_zero] at this
      have cx := hcx _ hb
      have HCX := Lib.hid hcx
      have lbx : bx < wo.heap.size := Nat.lt_of_lt_of_le hbx hb.size
      clear hat hcx
      obtain ⟨hs, hg, ee, l', all', I', len1, hal', len2, len3, hee, C1, C2⟩ := op_put_alive (ps := w.heap.size + 3) (g := w.heap.size + 2) (B := BB) (bm := bm) (o := 0) (v := vr) (n := ((r + 1 : Nat) : Int)) I (by omega) (by omega) (by omega) (by omega) x
      have C1 := Lib.hid C1; have C2 := Lib.hid C2; have HE := Lib.hid hee; have HI := Lib.hid I'; have HS := Lib.hid R.slab; have HRM := Lib.hid R; have HLEN := Lib.hid len1; have HAL' := Lib.hid (hal' HA.out); have HL2 := Lib.hid len2; have HL3 := Lib.hid len3
      have hown := R.own (Nat.le_refl wo.heap.size)
      have HOW := Lib.hid hown
      clear hee I' I len1 len2 len3 hal' hown
      have hg2 : w.heap.size + 2 < wo.heap.size := by omega
      go_upto_region 13 with fail
      go_cut [16, 17] from 57 to 65 (fun s16 s17 wx => ∃ b16, s16 = .pointer (some ⟨b16, 0, none⟩) ∧ s17 = .int .i64 ee ∧ wo.heap.size ≤ b16 ∧ b16 < wx.heap.size ∧ wx.cell? ⟨b16, 0, none⟩ = some (.int .i64 hs) ∧ wx.cell? ⟨b16, 1, none⟩ = some (.int .i64 hg) ∧ some b16 ≠ vr.ownBlock ∧ Below w.heap.size w wx ∧
        RM w.heap.size BB b9 bm (bm + 1) (bm + 2) (.slice A3 n3 c3) wx v14 v14 vr (r + 1) l' all told)
      case first =>
        refine wp_normal2 ?_
        go_region_with (go_at_call 28; refine Calls.mono (C1.out _ (by first | exact HS.out.drew' | exact HS.out.drew'.alloc _ | exact (HS.out.alloc _).drew')) ?_; rintro e W ⟨rfl, hgr, hS⟩; have F0 := (both_cell 0 (by decide) hgr hg2 (by first | exact .inl rfl | exact .inr rfl)).1; have F1 := (both_cell 1 (by decide) hgr hg2 (by first | exact .inl rfl | exact .inr rfl)).1; have G0 := (both_cell 0 (by decide) hgr hg2 (by first | exact .inl rfl | exact .inr rfl)).2; have G1 := (both_cell 1 (by decide) hgr hg2 (by first | exact .inl rfl | exact .inr rfl)).2; simp [size_drew] at F0 F1 G0 G1)
        all_goals dsimp only
        all_goals (clear C1 C2 HE HI H1 H2 H3 HCX hnil)
        all_goals go_wp2_with fail
        all_goals go_meet
        all_goals (have szX := hgr.size)
        all_goals (first | (have szX2 : wo.heap.size ≤ W.heap.size := by simpa using szX) | (have szX2 : wo.heap.size + 1 ≤ W.heap.size := by simpa using szX))
        all_goals first
          | exact ⟨W.heap.size, rfl, rfl, by omega, by simp, by simp [go_sem], by simp [go_sem], (fun e => by have := (HRM.out.ref.row.lt _ e.symm).2; omega), (hb.drew.trans (grown_below' hgr (by omega) (by simpa using hb.size))).alloc (by have := hb.size; omega) _, ((HRM.out.drew).slabTurn hgr hS).alloc _⟩
          | exact ⟨wo.heap.size, rfl, rfl, Nat.le_refl _, by simp; omega, (set_two F0 F1 _ _).1, (set_two F0 F1 _ _).2, HOW.out.1, (((hb.alloc hb.size _).drew.trans (grown_below' hgr (by omega) (by have := hb.size; simp; omega))).setCell (p := ⟨wo.heap.size, 0, none⟩) hb.size _).setCell (p := ⟨wo.heap.size, 1, none⟩) hb.size _, ((((HRM.out.alloc _).drew).slabTurn hgr hS).far2 (by omega) HOW.out.1 HOW.out.2 0 _).far2 (by omega) HOW.out.1 HOW.out.2 1 _⟩
      case rest =>
        obtain ⟨b16, rfl, rfl, hb16, lb16, q0, q1, o1, hbx2, R2⟩ := hcut
        clear c9 l9 c14 f14 l14 cx HS HRM HOW R hb C1
        obtain ⟨wo2, rfl⟩ : ∃ wo2 : World, wo2 = wc := ⟨_, rfl⟩
        have cx := HCX.out _ hbx2
        have lbx := Nat.lt_of_lt_of_le hbx hbx2.size
        have HR2 := Lib.hid R2
        go_wp2_with fail
        refine (C2.out _ HR2.out.ref).mono ?_
        rintro e W3 ⟨rfl, hrt, v', hR3, hv3⟩
        have R3 := HR2.out.refTurn hrt hR3 hv3
        have b3 := Below.rturn hbx2 hrt hbx2.size (by omega) (fun j hj => by have := (HR2.out.ref.row.lt j hj).1; omega)
        have p0 := (World.cell?_of_block (a := ⟨b16, 0, none⟩) (hrt.block b16 lb16 (by omega) o1)).trans q0
        have p1 := (World.cell?_of_block (a := ⟨b16, 1, none⟩) (hrt.block b16 lb16 (by omega) o1)).trans q1
        have l16 : b16 < W3.heap.size := Nat.lt_of_lt_of_le lb16 hrt.size
        clear q0 q1 hrt hR3 hv3 HR2 R2 C2 cx lbx hbx2 lb16 o1 wo2
        have R4 := R3.alloc (.cells #[.int .i64 hs, .int .i64 hg] 32)
        have b4 := b3.alloc b3.size (.cells #[.int .i64 hs, .int .i64 hg] 32)
        have c14 := R3.b14_.cell; have f14 := R3.b14_.frozen; have l14 := R3.b14_.lt
        obtain ⟨A7, c7, e7, hA7⟩ := R3.told_
        have HA7 := Lib.hid hA7
        have hlit : ((W3.alloc (.cells #[.int .i64 hs, .int .i64 hg] 32)).alloc (.cells #[.int .i64 hs, .int .i64 hg] 32)).heap[W3.heap.size + 1]? = some (.cells #[.int .i64 hs, .int .i64 hg] 32 (0, 0)) := by
          have := heap_alloc_new (W3.alloc (.cells #[.int .i64 hs, .int .i64 hg] 32)) (.cells #[.int .i64 hs, .int .i64 hg] 32)
          rwa [World.size_alloc] at this
        have HL := Lib.hid hlit
        have R5 := R4.alloc (.cells #[.int .i64 hs, .int .i64 hg] 32)
        have HR5 := Lib.hid R5
        have HR4 := Lib.hid R4
        have b5 := b4.alloc b4.size (.cells #[.int .i64 hs, .int .i64 hg] 32)
        have B5 := Lib.hid b5
        have B4 := Lib.hid b4
        clear hA7 hlit R5 R4 R3 b3 b4 b5
        subst e7
        rcases HE.out with ⟨rfl, hpos⟩ | ⟨rfl, rfl, rfl⟩
        · go_wp2_with (at_builtin; refine wpList_append_lies _ rfl _ _ 29 (by rfl) BB 32 i2 (.agg #[.int .i64 0, .int .i64 0]) 2 16 Try.underlying29 hi2 iz0 iz1 iz2 rfl (by decide) _ told.length (hcells told) (by rfl) HR5.out.r14 ⟨W3.heap.size + 1, 0, none⟩ 1 1 [.int .i64 hs, .int .i64 hg] (by rfl) rfl (World.news_of_block HL.out) (by intro u hu; simp at hu; rcases hu with rfl | rfl <;> rfl) (by decide) (by unfold maxLen; omega) (by omega) HR5.out.ord.2.2.2.2.2 (W3.heap.size + 1 + 1) (by simp) ?_; intro k7 cc7 W7 own7 grow7 at7 lt7; have R7 := HR5.out.app own7 grow7 (at7.imp id (fun e => by rw [e]; simp)); have cc14 := R7.b14_.cell; have ff14 := R7.b14_.frozen; have ll14 := R7.b14_.lt)
          have R8 := R7.set14 (.slice (some ⟨k7, 0, none⟩) (told.length + 1) cc7)
          have b7 := B5.out.trans (grown_belowB grow7 (fun j hj => by have := (HR5.out.r14.lt j hj).1; omega) B5.out.size)
          have b8 := b7.setCell (p := ⟨bm + 2, 0, none⟩) (by show w.heap.size ≤ bm + 2; omega) (.slice (some ⟨k7, 0, none⟩) (told.length + 1) cc7)
          go_roundg (gk - 1)
          case measure => omega
          case rel => exact ⟨k + 1, l', all', told ++ [(hs, hg)], _, _, by omega, by go_num, R8, HI.out, by have := HLEN.out; omega, HAL'.out, by rw [List.length_append, List.length_singleton, HL2.out (by simp)]; omega, b8⟩
        · go_wp2_with fail
          go_roundg (gk - 1)
          case measure => omega
          case rel => exact ⟨k + 1, l', all', told, _, _, by omega, by go_num, HR4.out, HI.out, by have := HLEN.out; omega, HAL'.out, by have := HL3.out; omega, B4.out⟩
    · obtain rfl : k = n1 := by omega
      obtain ⟨A7, c7, e7, hA7⟩ := R.told_
      subst e7
      obtain ⟨TT, hTT⟩ : ∃ TT, TT = told.length := ⟨_, rfl⟩
      rw [← hTT] at R hA7 htl
      have hT64 : TT ≤ 65 := by omega
      clear htl HA
      have HTT := Lib.hid hTT
      have HA7 := Lib.hid hA7
      clear hA7 hTT
      have ord0 : BB ≤ wo.heap.size := R.ord.2.2.2.2.2
      go_upto_block 2 with fail
      go_cut [20, 21] from 83 to 108 (fun _ _ wx => ∃ (l : List SL) (all : List HV), RInv l all ∧ l.length = r + 1 ∧ all.length ≤ r + 1 ∧ RM w.heap.size BB b9 bm (bm + 1) (bm + 2) (.slice A3 n3 c3) wx (.slice A7 TT c7) (.slice A7 TT c7) vr (r + 1) l all told ∧ Below w.heap.size w wx)
      case first =>
        go_wp2_with fail
        go_loopg [20] n2 (fun gk v wr => ∃ (j : Nat) (l : List SL) (all : List HV), j + gk = n2 ∧ v = .int .i64 j ∧ RInv l all ∧ l.length = r + 1 ∧ all.length ≤ r + 1 ∧ RM w.heap.size BB b9 bm (bm + 1) (bm + 2) (.slice A3 n3 c3) wr (.slice A7 TT c7) (.slice A7 TT c7) vr (r + 1) l all told ∧ Below w.heap.size w wr)
        case atStart => exact ⟨0, l, all, by omega, rfl, I, hl, hal, R, hb⟩
        case round =>
          clear R hb I hl hal c9 l9 c14 f14 l14 l all
          obtain ⟨wo2, rfl⟩ : ∃ wo2 : World, wo2 = wr := ⟨_, rfl⟩
          obtain ⟨j, l, all, hj, rfl, I, hl, hal, R, hb⟩ := hrel
          have c9 := R.b9_.cell; have l9 := R.b9_.lt; have c14 := R.b14_.cell; have l14 := R.b14_.lt
          by_cases hlt : j < n2
          · have t1 : decide ((j : Int) < (n2 : Int)) = true := decide_eq_true (by omega)
            by_cases hm0 : 0 < TT
            · have t2 : decide (0 < (TT : Int)) = true := decide_eq_true (by omega)
              obtain ⟨b, off, rfl, hbl, hat⟩ := H2.out.at_ (by omega)
              obtain ⟨d, hd⟩ : ∃ d, ds[j]? = some d := ⟨_, List.getElem?_eq_getElem (by rw [H2.out.len]; exact hlt)⟩
              have cd := (hb.cell (p := ⟨b, off + j * 1 + 0, none⟩) hbl).trans (hat j d hd 0 _ rfl)
              rw [Nat.mul_one, Nat.add_zero] at cd
              have lb2 : b < wo2.heap.size := Nat.lt_of_lt_of_le hbl hb.size
              clear hat
              have hk3 := hrnd.out d TT (by omega)
              have K3 := round_ok d TT
              obtain ⟨q, hq⟩ : ∃ q : Nat, rnd d TT = q := ⟨(rnd d TT).toNat, by omega⟩
              rw [hq] at hk3 K3
              clear hq
              have K3 := Lib.hid K3
              have hql : q < TT := by omega
              obtain ⟨p, hp⟩ : ∃ p, told[q]? = some p := ⟨_, List.getElem?_eq_getElem (by have := HTT.out; omega)⟩
              obtain ⟨k7, e7, hk71, hk72⟩ := HA7.out (by have := HTT.out; omega)
              subst e7
              have lk7 : k7 < wo2.heap.size := (R.r14.lt k7 rfl).2
              obtain ⟨a0, a1⟩ := R.at14 hp
              obtain ⟨xx, bb, l', all', I', len1, len2, C1, C2⟩ := op_drop (ps := w.heap.size + 3) (g := w.heap.size + 2) (B := BB) (bm := bm) (o := 0) (v := vr) (n := ((r + 1 : Nat) : Int)) I (by omega) p.1 p.2
              have C1 := Lib.hid C1; have C2 := Lib.hid C2; have HI := Lib.hid I'; have HRM := Lib.hid R; have HLEN := Lib.hid len1; have HLEN2 := Lib.hid len2
              have hown := R.own (Nat.le_refl wo2.heap.size)
              have HOW := Lib.hid hown
              have hp' := Lib.hid hp
              clear I' I len1 len2 hown R hp
              go_upto_region 22 with fail
              go_cut [21] from 94 to 103 (fun s21 wx => ∃ b21, s21 = .pointer (some ⟨b21, 0, none⟩) ∧ wo2.heap.size ≤ b21 ∧ b21 < wx.heap.size ∧ wx.cell? ⟨b21, 0, none⟩ = some (.int .i64 p.1) ∧ wx.cell? ⟨b21, 1, none⟩ = some (.int .i64 p.2) ∧ some b21 ≠ vr.ownBlock ∧ Below w.heap.size w wx ∧
                RM w.heap.size BB b9 bm (bm + 1) (bm + 2) (.slice A3 n3 c3) wx (.slice (some ⟨k7, 0, none⟩) TT c7) (.slice (some ⟨k7, 0, none⟩) TT c7) vr (r + 1) l all told)
              case first =>
                refine wp_normal2 ?_
                have nb1 : bm + 2 ≠ wo2.heap.size := by omega
                have nb2 : b ≠ wo2.heap.size := by omega
                have nb3 : k7 ≠ wo2.heap.size := by omega
                go_region_held3 (fun w' => w'.cell? ⟨bm + 2, 0, none⟩ = some (.slice (some ⟨k7, 0, none⟩) TT c7) ∧ w'.cell? ⟨b, off + j, none⟩ = some (.int .i64 d) ∧ w'.cell? ⟨k7, q * 2, none⟩ = some (.int .i64 p.1) ∧ w'.cell? ⟨k7, q * 2 + 1, none⟩ = some (.int .i64 p.2)) (go_keep) (first | (go_at_call 11; refine Calls.mono (K3.out _ (by omega) (by omega)) ?_; rintro e W ⟨rfl, rfl⟩))
                all_goals dsimp only
                all_goals (clear C1 C2 HI H1 H2 H3 hnil)
                all_goals go_wp2_with fail
                all_goals go_meet
                all_goals first
                  | exact ⟨wo2.heap.size, rfl, Nat.le_refl _, by simp, by simp [go_sem], by simp [go_sem], HOW.out.1, hb.drew.alloc (by have := hb.size; omega) _, (HRM.out.drew).alloc _⟩
                  | exact ⟨wo2.heap.size, rfl, Nat.le_refl _, by simp, by simp [go_sem], by simp [go_sem], HOW.out.1, (hb.alloc hb.size _).drew, (HRM.out.alloc _).drew⟩
              case rest =>
                obtain ⟨b21, rfl, hb21, lb21, q0, q1, o1, hbx2, R2⟩ := hcut
                clear c9 l9 c14 l14 cd HRM HOW hb a0 a1
                obtain ⟨wo3, rfl⟩ : ∃ wo3 : World, wo3 = wc := ⟨_, rfl⟩
                have c9 := R2.b9_.cell
                have HR2 := Lib.hid R2
                have ord : w.heap.size + 3 < b9 ∧ b9 < bm ∧ bm + 2 < BB := by have := R2.ord; omega
                clear R2
                go_wp2_with fail
                refine (C1.out _ HR2.out.slab).mono ?_
                rintro e W3 ⟨rfl, hg3, hS3⟩
                have R3 := HR2.out.slabTurn hg3 hS3
                have b3 := hbx2.trans (grown_below' hg3 (by omega) hbx2.size)
                have p0 := (hg3.cell_far ⟨b21, 0, none⟩ lb21 (by simp; omega)).trans q0
                have p1 := (hg3.cell_far ⟨b21, 1, none⟩ lb21 (by simp; omega)).trans q1
                clear hg3 hS3 HR2 q0 q1 hbx2 c9 lb21 wo3
                have HR3 := Lib.hid R3
                clear R3
                go_wp2_with fail
                refine (C2.out _ HR3.out.ref).mono ?_
                rintro e W4 ⟨rfl, hrt, hR4⟩
                have R4 := HR3.out.refTurn hrt hR4 (.inl rfl)
                have b4 := Below.rturn b3 hrt b3.size (by omega) (fun j hj => by have := (HR3.out.ref.row.lt j hj).1; omega)
                clear p0 p1 hrt hR4 HR3 b3
                go_wp2_with fail
                go_roundg (gk - 1)
                case measure => omega
                case rel => exact ⟨j + 1, l', all', by omega, by go_num, HI.out, by have := HLEN.out; omega, by have := HLEN2.out; omega, R4, b4⟩
            · have t2 : decide (0 < (TT : Int)) = false := decide_eq_false (by omega)
              go_wp2_with fail
              go_meet
              exact ⟨l, all, I, hl, hal, R, hb⟩
          · have t1 : decide ((j : Int) < (n2 : Int)) = false := decide_eq_false (by omega)
            go_wp2_with fail
            go_meet
            exact ⟨l, all, I, hl, hal, R, hb⟩
      case rest =>
        clear R hb I hl hal c9 l9 c14 f14 l14
        obtain ⟨l, all, I, hl, hal, R, hb⟩ := hcut
        obtain ⟨wo3, rfl⟩ : ∃ wo3 : World, wo3 = wc := ⟨_, rfl⟩
        have ord := R.ord
        have HR1 := Lib.hid (R.alloc (.cells #[] 82))
        have HRM := Lib.hid R
        have HB := Lib.hid hb
        have HI := Lib.hid I
        obtain ⟨hlk, hlen⟩ := held_likes l I.strs
        have hfl := List.length_filter_le (fun s : SL => s.full) l
        clear R hb
        go_wp2_with fail
        refine (op_list I (by omega) (by omega) (by omega) _ HR1.out.ref).mono ?_
        rintro e W2 ⟨vv, rfl, b2, own2⟩
        obtain ⟨L, hL⟩ : ∃ L, L = l.filterMap heldOf := ⟨_, rfl⟩
        rw [← hL] at own2 hlk hlen
        clear hL I
        have hL64 : L.length ≤ 64 := by omega
        have hown0 := World.ownsRow_lit (base := wo3.heap.size) (e := 82) (size := 4) wo3 #[] 0 (Nat.le_refl _) (by decide) rfl
        have own0 := hown0.kept (below_grown (row := none) b2) (none_or _)
        have bX2 : Below wo3.heap.size wo3 W2 := ((Below.refl _ wo3).alloc (Nat.le_refl _) _).trans (b2.mono (by simp))
        have O0 := Lib.hid own0
        have O2 := Lib.hid own2
        have HLK := Lib.hid hlk
        have HLEN := Lib.hid hlen
        clear own0 own2 hown0 b2 hlk hlen
        have sz2 := bX2.size
        have sz2' : wo3.heap.size < W2.heap.size := (O0.out.lt wo3.heap.size rfl).2
        go_wp2_with (at_builtin; refine wpList_copy4 rfl _ _ (by rfl) rfl wo3.heap.size _ vv L (by rfl) (by rfl) O0.out sz2 (by omega) O2.out ?_; intro vw W5 b5 own5; obtain ⟨AL, cL, e5, hrd5⟩ := own_rd own5; clear hrd5; subst e5)
        obtain ⟨n, hn0⟩ : ∃ n, n = L.length := ⟨_, rfl⟩
        have own6 : W5.ownsRow wo3.heap.size 82 4 (.slice AL n cL) L.length (hvs L) := by rw [hn0]; exact own5
        rw [← hn0]
        clear own5
        have bX5 : Below wo3.heap.size wo3 W5 := bX2.trans b5
        have R5 := HRM.out.below bX5
        have ne5 : (Value.slice AL n cL).ownBlock = none ∨ (Value.slice AL n cL).ownBlock ≠ vr.ownBlock := by
          cases hq : (Value.slice AL n cL).ownBlock with
          | none => exact .inl rfl
          | some k5 => exact .inr (fun e => by
              have h1 := (own6.lt k5 hq).1
              have h2 := (HRM.out.ref.row.lt k5 e.symm).2
              omega)
        have sz5 := bX5.size
        have M5 : BM w.heap.size BB b9 bm (bm + 1) (bm + 2) W5.heap.size (W5.heap.size + 1) wo3.heap.size (.slice A3 n3 c3) (.slice A7 TT c7) (.slice AL n cL) (r + 1) told L ((W5.alloc (.cells #[.slice AL n cL] 56)).alloc (.cells #[.int .i64 0] 3)) vr l all 0 := by
          refine ⟨(R5.alloc _).alloc _, (Boxed.new W5 56 _).alloc _, ?_, (own6.alloc _).alloc _, ne5, by omega⟩
          have := Boxed.new (W5.alloc (.cells #[.slice AL n cL] 56)) 3 (.int .i64 0)
          simpa using this
        have b5' : Below w.heap.size w ((W5.alloc (.cells #[.slice AL n cL] 56)).alloc (.cells #[.int .i64 0] 3)) := ((HB.out.trans (bX5.mono HB.out.size)).alloc (by have := HB.out.size; omega) _).alloc (by have := HB.out.size; simp; omega) _
        have szX : W5.heap.size + 2 ≤ ((W5.alloc (.cells #[.slice AL n cL] 56)).alloc (.cells #[.int .i64 0] 3)).heap.size := by simp
        generalize (W5.alloc (.cells #[.slice AL n cL] 56)).alloc (.cells #[.int .i64 0] 3) = WX at *
        generalize W5.heap.size = b22 at *
        have HN0 := Lib.hid hn0
        clear hn0 own6 bX5 R5 ne5 O0 O2 HR1 HRM sz2 sz2' bX2 b5 W2 W5
        have ordM := M5.rm.ord
        have HTT2 := HTT.out
        have HTM := Lib.hid HTT2
        clear HTT2
        have hJ : OwnFrom WX.heap.size (fun (pre : List StrSL) W => (∃ (l2 : List SL) (all2 : List HV) (v2 : Value) (q : Nat), q = pre.length ∧ RInv l2 all2 ∧ l2.length = r + 1 ∧ all2.length ≤ r + 1 + q ∧ BM w.heap.size BB b9 bm (bm + 1) (bm + 2) b22 (b22 + 1) wo3.heap.size (.slice A3 n3 c3) (.slice A7 TT c7) (.slice AL n cL) (r + 1) told L W v2 l2 all2 q) ∧ (Below w.heap.size w W ∧ WX.heap.size ≤ W.heap.size) ∧ (pre.length ≤ n ∧ Likes (vals pre) L)) :=
          OwnFrom.and (fun s A B row ⟨l2, all2, v2, q, h1, h2, h3, h4, h5⟩ hg hr => ⟨l2, all2, v2, q, h1, h2, h3, h4, h5.keptc hg (fun r e => (hr r e).2)⟩) (OwnFrom.and (OwnFrom.and (ownFrom_below (Nat.le_refl _) b5'.size) (fun s A B row hs hg hr => Nat.le_trans hs hg.size)) (fun _ _ _ _ hs _ _ => hs))
        refine (wpIn_wide (n := 3)).1 ?_
        refine range_boxed (F := Fence.wide) rfl (by decide) (gf := 48) (lb := #[.pointer (some ⟨bm + 1, 0, none⟩)]) rfl trivial (enters_of Try.func48 (by kernel_rfl) rfl)
          (allns_stops Fence.wide 2 trivial rfl (by decide) (bm + 1) (w.heap.size + 3) (w.heap.size + 2) l (by omega) (by omega) HI.out.strs (fun s => ∃ b : ByteArray, s.x = .string b) (fun s hs _ => HI.out.strs s hs) WX M5.rm.bE_.lt M5.rm.bE_.cell M5.rm.slab)
          KN.trans (KN.putObj (w := WX)) (Below.refl _ _) (fun _ => rfl)
          (fun (pre : List StrSL) W => (∃ (l2 : List SL) (all2 : List HV) (v2 : Value) (q : Nat), q = pre.length ∧ RInv l2 all2 ∧ l2.length = r + 1 ∧ all2.length ≤ r + 1 + q ∧ BM w.heap.size BB b9 bm (bm + 1) (bm + 2) b22 (b22 + 1) wo3.heap.size (.slice A3 n3 c3) (.slice A7 TT c7) (.slice AL n cL) (r + 1) told L W v2 l2 all2 q) ∧ (Below w.heap.size w W ∧ WX.heap.size ≤ W.heap.size) ∧ (pre.length ≤ n ∧ Likes (vals pre) L))
          (fun cc (pre : List StrSL) _ => ¬ (pre.length ≤ n ∧ Likes (vals pre) L))
          hJ
          (fun _ _ _ _ _ hs _ _ => hs)
          ⟨⟨l, all, vr, 0, rfl, HI.out, hl, by omega, M5⟩, ⟨b5', Nat.le_refl _⟩, Nat.zero_le _, (fun i s e h => by simp [vals] at h)⟩
          (fun W Bx x => W.cell? ⟨Bx, 0, none⟩ = some (.int .i64 x.1.slot) ∧ W.cell? ⟨Bx, 1, none⟩ = some (.int .i64 x.1.gen))
          (fun a x Bx => { tmps := (((a.tmps.setIfInBounds 113 (.agg #[.int .i64 x.1.slot, .int .i64 x.1.gen])).setIfInBounds 114 x.1.x).setIfInBounds 24 (.pointer (some ⟨Bx, 0, none⟩))).setIfInBounds 25 x.1.x, defers := [] })
          (fun Bx x s A B row hs hg hr => ⟨cell_kept hs.1 hg (fun r e => (hr r e).2), cell_kept hs.2 hg (fun r e => (hr r e).2)⟩)
          ?assign ?body ?done ?stop
        case assign =>
          rintro lp pre x W K ⟨⟨l2, all2, v2, q, e1, e2, e3, e4, M⟩, ⟨hb, hs⟩, hpl, hlk⟩ hK
          gi_wp2
          have h := hK W.heap.size (W.alloc (.cells #[.int .i64 x.1.slot, .int .i64 x.1.gen] 32)) hs ((KeepsOthers.alloc _ _).from _) (KN.below ((Below.refl _ W).alloc (Nat.le_refl _) _)) ⟨⟨l2, all2, v2, q, e1, e2, e3, e4, M.below ((Below.refl _ W).alloc (Nat.le_refl _) _)⟩, ⟨hb.alloc hb.size _, Nat.le_trans hs (by simp)⟩, hpl, hlk⟩ ⟨by simp [go_sem], by simp [go_sem]⟩
          simp only [List.setIfInBounds_toArray, List.set_cons_succ, List.set_cons_zero] at h
          exact h
        case body =>
          rintro lp pre ⟨⟨sl, ge, fu, xx⟩, hxs⟩ Bx W hBx ⟨⟨l2, all2, v2, q, hq, I2, hl2, hal2, M⟩, ⟨hb, hs⟩, hpl, hlk2⟩ ⟨hx0, hx1⟩ hlt
          have hxs2 := hxs
          obtain ⟨b, hxb⟩ : ∃ b : ByteArray, xx = .string b := hxs2
          subst hxb
          simp only [List.setIfInBounds_toArray, List.set_cons_succ, List.set_cons_zero] at hx0 hx1 ⊢
          have HQ := Lib.hid hq
          have c22 := M.b22_.cell; have c23 := M.b23_.cell; have f23 := M.b23_.frozen; have c8 := M.rm.b8.cell; have f8 := M.rm.b8.frozen
          have l22 := M.b22_.lt; have l23 := M.b23_.lt
          have lx : Bx < W.heap.size := World.block_lt_of_cell? W _ hx0
          have hqN : q ≤ n := by rw [hq]; exact hpl
          have hn64 : n ≤ 64 := by have := HN0.out; omega
          by_cases hin : q < n
          · have g0 : decide ((n : Int) ≤ (q : Int)) = false := decide_eq_false (by omega)
            have g1 : decide (n ≤ q) = false := decide_eq_false (by omega)
            obtain ⟨A', c', e', hrd⟩ := own_rd M.row
            injection e' with e1 e2 e3
            subst e1
            clear e2 e3
            obtain ⟨bb, off, hAL, hbl, hat⟩ := hrd.at_ (by have := HN0.out; omega)
            subst hAL
            obtain ⟨e, he⟩ : ∃ e, L[q]? = some e := ⟨_, List.getElem?_eq_getElem (by have := HN0.out; omega)⟩
            have d0 := hat _ e he 0 _ rfl; have d1 := hat _ e he 1 _ rfl; have d2 := hat _ e he 2 _ rfl
            rw [Nat.add_zero] at d0
            clear hat
            have hnot : ¬ Like ⟨sl, ge, fu, .string b⟩ e → ¬ ((pre ++ [(⟨⟨sl, ge, fu, .string b⟩, hxs⟩ : StrSL)]).length ≤ n ∧ Likes (vals (pre ++ [⟨⟨sl, ge, fu, .string b⟩, hxs⟩])) L) := fun hne hh => hne (Likes.last (by have := hh.2; rw [vals_app] at this; exact this) (by rw [vals_len, ← hq]; exact he))
            have HN := Lib.hid hnot
            have hnext : Like ⟨sl, ge, fu, .string b⟩ e → ((pre ++ [(⟨⟨sl, ge, fu, .string b⟩, hxs⟩ : StrSL)]).length ≤ n ∧ Likes (vals (pre ++ [⟨⟨sl, ge, fu, .string b⟩, hxs⟩])) L) := fun hli => ⟨by rw [List.length_append, List.length_singleton]; omega, by rw [vals_app]; exact hlk2.next (by rw [vals_len, ← hq]; exact he) hli⟩
            have HX := Lib.hid hnext
            clear hnot hnext hq
            by_cases e1 : e.s = sl
            · by_cases e2 : e.g = ge
              · by_cases e3 : e.x = b
                · subst e1 e2 e3
                  gi_wp2_with fail
                  refine wpIn_region_bw_round W.heap.size W (Below.refl _ _) (by kernel_rfl) (by kernel_rfl) (by kernel_rfl) ?_
                  repeat (gi_big_quiet_step (fail))
                  refine wpQuietIn_nil ?_
                  intro x
                  have M' := M.below x.h
                  have hb' := hb.trans (x.h.mono hb.size)
                  have kf' : KeepsFrom WX.heap.size W x.i := KeepsFrom.of_grownBy (row := none) (below_grown x.h) (fun j e => by cases e)
                  have kn' : KN 111 WX.heap.size W x.i := KN.below x.h
                  have sz' : W.heap.size ≤ x.i.heap.size := x.h.size
                  generalize x.i = W' at *
                  clear c22 c23 f23 c8 f8 l22 l23 lx d0 d1 d2 hx0 hx1 x
                  have c23 := M'.b23_.cell; have f23 := M'.b23_.frozen; have l23 := M'.b23_.lt
                  have cc7 := M'.rm.b7.cell; have l7 := M'.rm.b7.lt
                  by_cases hd : q < n3
                  · have vd1 : decide ((q : Int) < (n3 : Int)) = true := decide_eq_true (by omega)
                    have vd2 : decide (q < n3) = true := decide_eq_true (by omega)
                    obtain ⟨b3, off3, e3, hb3, hat3⟩ := H3.out.at_ (by omega)
                    subst e3
                    obtain ⟨op, hop⟩ : ∃ op, ops[q]? = some op := ⟨_, List.getElem?_eq_getElem (by rw [H3.out.len]; exact hd)⟩
                    have rd : ∀ u : World, Below w.heap.size w u → ∀ (j : Nat) (z : Value), op.cells[j]? = some z → u.cell? ⟨b3, off3 + q * 6 + j, none⟩ = some z := fun u hu j z hz => (hu.cell (p := ⟨b3, off3 + q * 6 + j, none⟩) hb3).trans (hat3 q op hop j z hz)
                    have HRD := Lib.hid rd
                    clear rd hat3 hop
                    have K22 := Lib.hid (fun (u : World) (hu : Below W'.heap.size W' u) => bm_step M' I2 hl2 (by omega) (by omega) (by omega) hb' hb'.size op rfl HTM.out.symm (by omega) (N := WX.heap.size) ⟨by omega, by omega⟩ u hu)
                    have HM' := Lib.hid M'
                    clear M'
                    obtain ⟨owho, okind, on, ohs, ohg, ox⟩ := op
                    gi_wp2_with fail
                    clear c23 f23 l23 cc7 l7
                    have hSM : ∀ (z : World) (v' : Value) (l' : List SL) (all' : List HV), BM w.heap.size BB b9 bm (bm + 1) (bm + 2) b22 (b22 + 1) wo3.heap.size (.slice (some ⟨b3, off3, none⟩) n3 c3) (.slice A7 TT c7) (.slice (some ⟨bb, off, none⟩) n cL) (r + 1) told L z v' l' all' q → Below w.heap.size w z → (fun (z : World) => z.cell? ⟨b9, 0, none⟩ = some (.pointer (some ⟨w.heap.size + 3, 0, none⟩)) ∧ z.cell? ⟨w.heap.size, 0, none⟩ = some (.slice (some ⟨b3, off3, none⟩) n3 c3) ∧ z.cell? ⟨b22 + 1, 0, none⟩ = some (.int .i64 (q : Int)) ∧ z.cell? ⟨b3, off3 + q * 6, none⟩ = some (.int .i64 owho) ∧ z.cell? ⟨b3, off3 + q * 6 + 1, none⟩ = some (.int .i64 okind) ∧ z.cell? ⟨b3, off3 + q * 6 + 2, none⟩ = some (.int .i64 on) ∧ z.cell? ⟨b3, off3 + q * 6 + 3, none⟩ = some (.int .i64 ohs) ∧ z.cell? ⟨b3, off3 + q * 6 + 4, none⟩ = some (.int .i64 ohg) ∧ z.cell? ⟨b3, off3 + q * 6 + 5, none⟩ = some (.string ox) ∧ z.cell? ⟨bm + 2, 0, none⟩ = some (.slice A7 TT c7)) z := fun z v' l' all' M hz => by
                      have hd := HRD.out z hz
                      exact ⟨M.rm.b9_.cell, M.rm.b7.cell, M.b23_.cell, by simpa using hd 0 _ rfl, hd 1 _ rfl, hd 2 _ rfl, hd 3 _ rfl, hd 4 _ rfl, hd 5 _ rfl, M.rm.b14_.cell⟩
                    have HSM := Lib.hid hSM
                    clear hSM
                    refine wpIn_region_held_round (S := (fun (z : World) => z.cell? ⟨b9, 0, none⟩ = some (.pointer (some ⟨w.heap.size + 3, 0, none⟩)) ∧ z.cell? ⟨w.heap.size, 0, none⟩ = some (.slice (some ⟨b3, off3, none⟩) n3 c3) ∧ z.cell? ⟨b22 + 1, 0, none⟩ = some (.int .i64 (q : Int)) ∧ z.cell? ⟨b3, off3 + q * 6, none⟩ = some (.int .i64 owho) ∧ z.cell? ⟨b3, off3 + q * 6 + 1, none⟩ = some (.int .i64 okind) ∧ z.cell? ⟨b3, off3 + q * 6 + 2, none⟩ = some (.int .i64 on) ∧ z.cell? ⟨b3, off3 + q * 6 + 3, none⟩ = some (.int .i64 ohs) ∧ z.cell? ⟨b3, off3 + q * 6 + 4, none⟩ = some (.int .i64 ohg) ∧ z.cell? ⟨b3, off3 + q * 6 + 5, none⟩ = some (.string ox) ∧ z.cell? ⟨bm + 2, 0, none⟩ = some (.slice A7 TT c7))) (by kernel_rfl) (by kernel_rfl) (by rintro ⟨_, _, h⟩; exact h) (HSM.out _ _ _ _ (HM'.out.below (Below.refl _ _).drew) hb'.drew) ?_
                    intro hS
                    refine wpAnyH_take (i := 0) (oi := { dst := some 142, op := Op.load 53 (Operand.tmp 9), type := 53, pos := "law.go:164", after := #[], guard := none }) (v := .pointer (some ⟨w.heap.size + 3, 0, none⟩)) rfl (by kernel_rfl) (by kernel_rfl) (by kernel_rfl) (fun _ _ _ h => h) (Or.inl ⟨by rfl, ?_⟩) (by assumption) ?_
                    · intro z hSz
                      obtain ⟨s0, s1, s2, s3, s4, s5, s6, s7, s8, s9⟩ := hSz
                      go_simp
                    try simp only [Act.put, List.setIfInBounds_toArray, List.set_cons_zero, List.set_cons_succ]
                    refine wpAnyH_take (i := 1) (oi := { dst := some 143, op := Op.load 52 (Operand.tmp 7), type := 52, pos := "law.go:164", after := #[], guard := none }) (v := .slice (some ⟨b3, off3, none⟩) n3 c3) rfl (by kernel_rfl) (by kernel_rfl) (by kernel_rfl) (fun _ _ _ h => h) (Or.inl ⟨by rfl, ?_⟩) (by assumption) ?_
                    · intro z hSz
                      obtain ⟨s0, s1, s2, s3, s4, s5, s6, s7, s8, s9⟩ := hSz
                      go_simp
                    try simp only [Act.put, List.setIfInBounds_toArray, List.set_cons_zero, List.set_cons_succ]
                    refine wpAnyH_take (i := 2) (oi := { dst := some 144, op := Op.load 3 (Operand.tmp 23), type := 3, pos := "law.go:164", after := #[], guard := none }) (v := .int .i64 (q : Int)) rfl (by kernel_rfl) (by kernel_rfl) (by kernel_rfl) (fun _ _ _ h => h) (Or.inl ⟨by rfl, ?_⟩) (by assumption) ?_
                    · intro z hSz
                      obtain ⟨s0, s1, s2, s3, s4, s5, s6, s7, s8, s9⟩ := hSz
                      go_simp
                    try simp only [Act.put, List.setIfInBounds_toArray, List.set_cons_zero, List.set_cons_succ]
                    refine wpAnyH_take (i := 3) (oi := { dst := some 145, op := Op.indexAddr 52 (Operand.tmp 143) (Operand.tmp 144), type := 0, pos := "law.go:164", after := #[{ on := 1, ground := Ground.data }, { on := 2, ground := Ground.data }], guard := none }) (v := .pointer (some ⟨b3, off3 + q * 6, none⟩)) rfl (by kernel_rfl) (by kernel_rfl) (by kernel_rfl) (fun _ _ _ h => h) (Or.inl ⟨by rfl, ?_⟩) (by assumption) ?_
                    · intro z hSz
                      obtain ⟨s0, s1, s2, s3, s4, s5, s6, s7, s8, s9⟩ := hSz
                      go_simp
                    try simp only [Act.put, List.setIfInBounds_toArray, List.set_cons_zero, List.set_cons_succ]
                    refine wpAnyH_take (i := 4) (oi := { dst := some 146, op := Op.load 67 (Operand.tmp 145), type := 67, pos := "law.go:164", after := #[{ on := 3, ground := Ground.data }], guard := none }) (v := .agg #[.int .i64 owho, .int .i64 okind, .int .i64 on, .int .i64 ohs, .int .i64 ohg, .string ox]) rfl (by kernel_rfl) (by kernel_rfl) (by kernel_rfl) (fun _ _ _ h => h) (Or.inl ⟨by rfl, ?_⟩) (by assumption) ?_
                    · intro z hSz
                      obtain ⟨s0, s1, s2, s3, s4, s5, s6, s7, s8, s9⟩ := hSz
                      go_simp
                    try simp only [Act.put, List.setIfInBounds_toArray, List.set_cons_zero, List.set_cons_succ]
                    refine wpAnyH_take (i := 5) (oi := { dst := some 147, op := Op.load 29 (Operand.tmp 14), type := 29, pos := "law.go:164", after := #[], guard := none }) (v := .slice A7 TT c7) rfl (by kernel_rfl) (by kernel_rfl) (by kernel_rfl) (fun _ _ _ h => h) (Or.inl ⟨by rfl, ?_⟩) (by assumption) ?_
                    · intro z hSz
                      obtain ⟨s0, s1, s2, s3, s4, s5, s6, s7, s8, s9⟩ := hSz
                      go_simp
                    try simp only [Act.put, List.setIfInBounds_toArray, List.set_cons_zero, List.set_cons_succ]
                    refine wpAnyH_ready (rs := [6, 10]) (by kernel_rfl) (by simp) ?_
                    refine AllReadyH.cons (o := { dst := some 148, op := Op.call { callee := Callee.value (Operand.func 22), args := #[Operand.tmp 142, Operand.tmp 11, Operand.tmp 146, Operand.tmp 147, Operand.const (Value.bool true)], argTypes := #[53, 70, 67, 29, 4] }, type := 68, pos := "law.go:164", after := #[{ on := 0, ground := Ground.data }, { on := 4, ground := Ground.data }, { on := 5, ground := Ground.data }], guard := none }) rfl (fun K hK => ?_) ?_
                    · go_simp
                      refine (K22.out _ (Below.refl _ _).drew).mono ?_
                      rintro e u' ⟨hs', hg', l3, all3, v3, rfl, E⟩
                      refine hK.out _ _ (HSM.out _ _ _ _ E.M E.b) ?_
                      clear hK K
                      intro hS2
                      refine wpAnyH_take (i := 7) (oi := { dst := some 141, op := Op.move (Operand.tmp 148), type := 68, pos := "law.go:164", after := #[{ on := 6, ground := Ground.data }], guard := none }) (v := .tuple #[.agg #[.int .i64 hs', .int .i64 hg'], .bool true]) rfl (by kernel_rfl) (by kernel_rfl) (by kernel_rfl) (fun _ _ _ h => h) (Or.inl ⟨by rfl, ?_⟩) (by assumption) ?_
                      · intro z hSz
                        obtain ⟨s0, s1, s2, s3, s4, s5, s6, s7, s8, s9⟩ := hSz
                        go_simp
                      try simp only [Act.put, List.setIfInBounds_toArray, List.set_cons_zero, List.set_cons_succ]
                      refine wpAnyH_take (i := 8) (oi := { dst := some 149, op := Op.extract (Operand.tmp 141) 0, type := 32, pos := "law.go:164", after := #[{ on := 7, ground := Ground.data }], guard := none }) (v := .agg #[.int .i64 hs', .int .i64 hg']) rfl (by kernel_rfl) (by kernel_rfl) (by kernel_rfl) (fun _ _ _ h => h) (Or.inl ⟨by rfl, ?_⟩) (by assumption) ?_
                      · intro z hSz
                        obtain ⟨s0, s1, s2, s3, s4, s5, s6, s7, s8, s9⟩ := hSz
                        go_simp
                      try simp only [Act.put, List.setIfInBounds_toArray, List.set_cons_zero, List.set_cons_succ]
                      refine wpAnyH_take (i := 9) (oi := { dst := some 150, op := Op.extract (Operand.tmp 141) 1, type := 4, pos := "law.go:164", after := #[{ on := 7, ground := Ground.data }, { on := 11, ground := Ground.gcOnly Departure.lateStores }], guard := none }) (v := .bool true) rfl (by kernel_rfl) (by kernel_rfl) (by kernel_rfl) (fun _ _ _ h => h) (Or.inl ⟨by rfl, ?_⟩) (by assumption) ?_
                      · intro z hSz
                        obtain ⟨s0, s1, s2, s3, s4, s5, s6, s7, s8, s9⟩ := hSz
                        go_simp
                      try simp only [Act.put, List.setIfInBounds_toArray, List.set_cons_zero, List.set_cons_succ]
                      have MA := E.M.below ((Below.refl _ u').alloc (Nat.le_refl _) (.cells #[.int .i64 hs', .int .i64 hg'] 32))
                      have MA0 := E.M.below ((Below.refl _ u').alloc (Nat.le_refl _) (.cells #[.int .i64 0, .int .i64 0] 32))
                      have bA := E.b.alloc E.b.size (.cells #[.int .i64 hs', .int .i64 hg'] 32)
                      have bA0 := E.b.alloc E.b.size (.cells #[.int .i64 0, .int .i64 0] 32)
                      have HMA := Lib.hid MA; have HMA0 := Lib.hid MA0; have HBA := Lib.hid bA; have HBA0 := Lib.hid bA0; have HE := Lib.hid E
                      clear MA MA0 bA bA0 E
                      refine wpAnyH_ready (rs := [10]) (by kernel_rfl) (by simp) ?_
                      refine AllReadyH.cons (o := { dst := some 26, op := Op.alloc 32, type := 0, pos := "law.go:164", after := #[], guard := none }) rfl (fun K hK => ?_) ?_
                      · go_simp
                        refine hK.out _ _ (HSM.out _ _ _ _ HMA0.out HBA0.out) ?_
                        clear hK K
                        intro hS3
                        refine wpAnyH_ready (rs := [11]) (by kernel_rfl) (by simp) ?_
                        refine AllReadyH.cons (o := { dst := none, op := Op.store 32 (Operand.tmp 26) (Operand.tmp 149), type := 0, pos := "law.go:164", after := #[{ on := 10, ground := Ground.data }, { on := 8, ground := Ground.data }, { on := 6, ground := Ground.chain }, { on := 0, ground := Ground.phase }, { on := 1, ground := Ground.phase }, { on := 2, ground := Ground.phase }, { on := 3, ground := Ground.phase }, { on := 4, ground := Ground.phase }, { on := 5, ground := Ground.phase }, { on := 6, ground := Ground.phase }, { on := 7, ground := Ground.phase }, { on := 8, ground := Ground.phase }, { on := 9, ground := Ground.textOnly Departure.lateStores }, { on := 10, ground := Ground.phase }], guard := none }) rfl (fun K hK => ?_) ?_
                        · go_simp
                          refine hK.out _ _ (HSM.out _ _ _ _ HMA.out HBA.out) ?_
                          clear hK K
                          intro hS4
                          refine wpAnyH_take (i := 12) (oi := { dst := some 27, op := Op.assign (Operand.tmp 150), type := 4, pos := "law.go:164", after := #[{ on := 9, ground := Ground.data }, { on := 11, ground := Ground.chain }, { on := 0, ground := Ground.phase }, { on := 1, ground := Ground.phase }, { on := 2, ground := Ground.phase }, { on := 3, ground := Ground.phase }, { on := 4, ground := Ground.phase }, { on := 5, ground := Ground.phase }, { on := 6, ground := Ground.phase }, { on := 7, ground := Ground.phase }, { on := 8, ground := Ground.phase }, { on := 9, ground := Ground.phase }, { on := 10, ground := Ground.phase }, { on := 11, ground := Ground.phase }], guard := none }) (v := .bool true) rfl (by kernel_rfl) (by kernel_rfl) (by kernel_rfl) (fun _ _ _ h => h) (Or.inl ⟨by rfl, ?_⟩) (by assumption) ?_
                          · intro z hSz
                            obtain ⟨s0, s1, s2, s3, s4, s5, s6, s7, s8, s9⟩ := hSz
                            go_simp
                          try simp only [Act.put, List.setIfInBounds_toArray, List.set_cons_zero, List.set_cons_succ]
                          refine wpAnyH_done (by kernel_rfl) ?_ _
                          have c23u := HMA.out.b23_.cell; have f23u := HMA.out.b23_.frozen
                          gi_wp2_with fail
                          have E := HE.out
                          exact ⟨(kf'.trans (E.kf.trans ((KeepsOthers.alloc _ _).from _))).trans ((KeepsOthers.setCell _ _ _).from _), (kn'.trans (E.kn.trans (KN.below ((Below.refl _ _).alloc (Nat.le_refl _) _)))).trans (KN.set (.inr fun cur fr e => by rw [show (u'.alloc (.cells #[.int .i64 hs', .int .i64 hg'] 32)).heap[b22 + 1]? = _ from HMA.out.b23_] at e; cases e)), ⟨l3, all3, E.I, E.len, by have := E.lenA; rw [List.length_append, List.length_singleton, ← HQ.out]; omega, _, by rw [List.length_append, List.length_singleton, ← HQ.out]; exact HMA.out.next⟩, ⟨HBA.out.setCell (p := ⟨b22 + 1, 0, none⟩) (by show w.heap.size ≤ b22 + 1; omega) _, by have := E.sz; simp; omega⟩, HX.out ⟨rfl, rfl, rfl⟩⟩
                        exact AllReadyH.nil
                      exact AllReadyH.nil
                    refine AllReadyH.cons (o := { dst := some 26, op := Op.alloc 32, type := 0, pos := "law.go:164", after := #[], guard := none }) rfl (fun K hK => ?_) ?_
                    · go_simp
                      refine hK.out _ _ (HSM.out _ _ _ _ (HM'.out.below ((Below.refl _ _).drew.alloc (Nat.le_refl _) _)) (hb'.drew.alloc hb'.size _)) ?_
                      clear hK K
                      intro hS2
                      refine wpAnyH_ready (rs := [6]) (by kernel_rfl) (by simp) ?_
                      refine AllReadyH.cons (o := { dst := some 148, op := Op.call { callee := Callee.value (Operand.func 22), args := #[Operand.tmp 142, Operand.tmp 11, Operand.tmp 146, Operand.tmp 147, Operand.const (Value.bool true)], argTypes := #[53, 70, 67, 29, 4] }, type := 68, pos := "law.go:164", after := #[{ on := 0, ground := Ground.data }, { on := 4, ground := Ground.data }, { on := 5, ground := Ground.data }], guard := none }) rfl (fun K hK => ?_) ?_
                      · go_simp
                        refine (K22.out _ ((Below.refl _ _).drew.alloc (Nat.le_refl _) _)).mono ?_
                        rintro e u' ⟨hs', hg', l3, all3, v3, rfl, E⟩
                        refine hK.out _ _ (HSM.out _ _ _ _ E.M E.b) ?_
                        clear hK K
                        intro hS3
                        refine wpAnyH_take (i := 7) (oi := { dst := some 141, op := Op.move (Operand.tmp 148), type := 68, pos := "law.go:164", after := #[{ on := 6, ground := Ground.data }], guard := none }) (v := .tuple #[.agg #[.int .i64 hs', .int .i64 hg'], .bool true]) rfl (by kernel_rfl) (by kernel_rfl) (by kernel_rfl) (fun _ _ _ h => h) (Or.inl ⟨by rfl, ?_⟩) (by assumption) ?_
                        · intro z hSz
                          obtain ⟨s0, s1, s2, s3, s4, s5, s6, s7, s8, s9⟩ := hSz
                          go_simp
                        try simp only [Act.put, List.setIfInBounds_toArray, List.set_cons_zero, List.set_cons_succ]
                        refine wpAnyH_take (i := 8) (oi := { dst := some 149, op := Op.extract (Operand.tmp 141) 0, type := 32, pos := "law.go:164", after := #[{ on := 7, ground := Ground.data }], guard := none }) (v := .agg #[.int .i64 hs', .int .i64 hg']) rfl (by kernel_rfl) (by kernel_rfl) (by kernel_rfl) (fun _ _ _ h => h) (Or.inl ⟨by rfl, ?_⟩) (by assumption) ?_
                        · intro z hSz
                          obtain ⟨s0, s1, s2, s3, s4, s5, s6, s7, s8, s9⟩ := hSz
                          go_simp
                        try simp only [Act.put, List.setIfInBounds_toArray, List.set_cons_zero, List.set_cons_succ]
                        refine wpAnyH_take (i := 9) (oi := { dst := some 150, op := Op.extract (Operand.tmp 141) 1, type := 4, pos := "law.go:164", after := #[{ on := 7, ground := Ground.data }, { on := 11, ground := Ground.gcOnly Departure.lateStores }], guard := none }) (v := .bool true) rfl (by kernel_rfl) (by kernel_rfl) (by kernel_rfl) (fun _ _ _ h => h) (Or.inl ⟨by rfl, ?_⟩) (by assumption) ?_
                        · intro z hSz
                          obtain ⟨s0, s1, s2, s3, s4, s5, s6, s7, s8, s9⟩ := hSz
                          go_simp
                        try simp only [Act.put, List.setIfInBounds_toArray, List.set_cons_zero, List.set_cons_succ]
                        have F0 := (both_block 0 (by decide) E.old (.inr rfl)).1; have F1 := (both_block 1 (by decide) E.old (.inr rfl)).1; have G0 := (both_block 0 (by decide) E.old (.inr rfl)).2; have G1 := (both_block 1 (by decide) E.old (.inr rfl)).2
                        have hsl : W'.heap.size < (W'.drew.alloc (.cells #[.int .i64 0, .int .i64 0] 32)).heap.size := by rw [World.size_alloc]; exact Nat.lt_succ_self _
                        rw [if_pos hsl] at F0 F1 G0 G1
                        have NE := E.ne hsl
                        have nX := E.nes
                        have MA := (E.M.far2 nX.2.2.2.2 NE nX.1 nX.2.1 (by omega) (by omega) 0 (.int .i64 hs')).far2 nX.2.2.2.2 NE nX.1 nX.2.1 (by omega) (by omega) 1 (.int .i64 hg')
                        have bA := (E.b.setCell (p := ⟨W'.heap.size, 0, none⟩) hb'.size (.int .i64 hs')).setCell (p := ⟨W'.heap.size, 1, none⟩) hb'.size (.int .i64 hg')
                        have hO := (E.old hsl).trans (heap_alloc_new W'.drew _)
                        have HMA := Lib.hid MA; have HBA := Lib.hid bA; have HE := Lib.hid E; have HO := Lib.hid hO
                        clear MA bA E NE nX hO hsl
                        refine wpAnyH_ready (rs := [11]) (by kernel_rfl) (by simp) ?_
                        refine AllReadyH.cons (o := { dst := none, op := Op.store 32 (Operand.tmp 26) (Operand.tmp 149), type := 0, pos := "law.go:164", after := #[{ on := 10, ground := Ground.data }, { on := 8, ground := Ground.data }, { on := 6, ground := Ground.chain }, { on := 0, ground := Ground.phase }, { on := 1, ground := Ground.phase }, { on := 2, ground := Ground.phase }, { on := 3, ground := Ground.phase }, { on := 4, ground := Ground.phase }, { on := 5, ground := Ground.phase }, { on := 6, ground := Ground.phase }, { on := 7, ground := Ground.phase }, { on := 8, ground := Ground.phase }, { on := 9, ground := Ground.textOnly Departure.lateStores }, { on := 10, ground := Ground.phase }], guard := none }) rfl (fun K hK => ?_) ?_
                        · go_simp
                          refine hK.out _ _ (HSM.out _ _ _ _ HMA.out HBA.out) ?_
                          clear hK K
                          intro hS4
                          refine wpAnyH_take (i := 12) (oi := { dst := some 27, op := Op.assign (Operand.tmp 150), type := 4, pos := "law.go:164", after := #[{ on := 9, ground := Ground.data }, { on := 11, ground := Ground.chain }, { on := 0, ground := Ground.phase }, { on := 1, ground := Ground.phase }, { on := 2, ground := Ground.phase }, { on := 3, ground := Ground.phase }, { on := 4, ground := Ground.phase }, { on := 5, ground := Ground.phase }, { on := 6, ground := Ground.phase }, { on := 7, ground := Ground.phase }, { on := 8, ground := Ground.phase }, { on := 9, ground := Ground.phase }, { on := 10, ground := Ground.phase }, { on := 11, ground := Ground.phase }], guard := none }) (v := .bool true) rfl (by kernel_rfl) (by kernel_rfl) (by kernel_rfl) (fun _ _ _ h => h) (Or.inl ⟨by rfl, ?_⟩) (by assumption) ?_
                          · intro z hSz
                            obtain ⟨s0, s1, s2, s3, s4, s5, s6, s7, s8, s9⟩ := hSz
                            go_simp
                          try simp only [Act.put, List.setIfInBounds_toArray, List.set_cons_zero, List.set_cons_succ]
                          refine wpAnyH_done (by kernel_rfl) ?_ _
                          have c23u := HMA.out.b23_.cell; have f23u := HMA.out.b23_.frozen
                          clear F0 F1 G0 G1 hS hS2 hS3
                          gi_wp2_with fail
                          have E := HE.out
                          have hn1 : ∀ cur fr, u'.heap[W'.heap.size]? ≠ some (.cells cur 111 fr) := fun cur fr e => by
                            have h := HO.out
                            rw [h] at e; cases e
                          exact ⟨(kf'.trans ((E.kf.trans ((KeepsOthers.setCell _ _ _).from _)).trans ((KeepsOthers.setCell _ _ _).from _))).trans ((KeepsOthers.setCell _ _ _).from _), (kn'.trans (E.kn.trans (KN.grown ((grownBy_set u' W'.heap.size 0 (.int .i64 hs')).trans (grownBy_set _ W'.heap.size 1 (.int .i64 hg'))) (fun k e => by cases e; exact .inr hn1)))).trans (KN.set (.inr fun cur fr e => by rw [show ((u'.setCell ⟨W'.heap.size, 0, none⟩ (.int .i64 hs')).setCell ⟨W'.heap.size, 1, none⟩ (.int .i64 hg')).heap[b22 + 1]? = _ from HMA.out.b23_] at e; cases e)), ⟨l3, all3, E.I, E.len, by have := E.lenA; rw [List.length_append, List.length_singleton, ← HQ.out]; omega, _, by rw [List.length_append, List.length_singleton, ← HQ.out]; exact HMA.out.next⟩, ⟨HBA.out.setCell (p := ⟨b22 + 1, 0, none⟩) (by show w.heap.size ≤ b22 + 1; omega) _, by have := E.sz; simp; omega⟩, HX.out ⟨rfl, rfl, rfl⟩⟩
                        exact AllReadyH.nil
                      exact AllReadyH.nil
                    exact AllReadyH.nil

                  · have vd1 : decide ((q : Int) < (n3 : Int)) = false := decide_eq_false (by omega)
                    have vd2 : decide (q < n3) = false := decide_eq_false (by omega)
                    gi_wp2_with fail
                    have MN := M'.next
                    exact ⟨kf'.trans ((KeepsOthers.setCell _ _ _).from _), kn'.trans (KN.set (.inr fun cur fr e => by rw [show W'.heap[b22 + 1]? = _ from M'.b23_] at e; cases e)), ⟨l2, all2, _, q + 1, by rw [HQ.out, List.length_append]; rfl, I2, hl2, by omega, MN⟩, ⟨hb'.setCell (p := ⟨b22 + 1, 0, none⟩) (by show w.heap.size ≤ b22 + 1; omega) _, by simp; omega⟩, HX.out ⟨rfl, rfl, rfl⟩⟩
                · have t3 : (e.x.toList == b.toList) = false := by simp only [beq_eq_false_iff_ne]; exact fun h => e3 (bytes_inj h)
                  have t3b : decide (e.x.toList = b.toList) = false := decide_eq_false (fun h => e3 (bytes_inj h))
                  subst e1 e2
                  gi_wp2_with fail
                  refine wpIn_region_bw_round W.heap.size W (Below.refl _ _) (by kernel_rfl) (by kernel_rfl) (by kernel_rfl) ?_
                  repeat (gi_big_quiet_step (fail))
                  refine wpQuietIn_nil ?_
                  intro x
                  have B8 := (M.below x.h).rm.b8
                  have c8y := B8.cell; have f8y := B8.frozen
                  gi_wp2_with fail
                  exact ⟨(KeepsFrom.of_grownBy (row := none) (below_grown x.h) (fun j e => by cases e)).trans ((KeepsOthers.setCell _ _ _).from _), HN.out (fun hl => e3 (by have := hl.2.2; simp only at this; injection this with this; exact this.symm))⟩
              · have t2 : (e.g == ge) = false := by simpa using e2
                subst e1
                gi_wp2_with fail
                refine wpIn_region_bw_round W.heap.size W (Below.refl _ _) (by kernel_rfl) (by kernel_rfl) (by kernel_rfl) ?_
                repeat (gi_big_quiet_step (fail))
                refine wpQuietIn_nil ?_
                intro x
                have B8 := (M.below x.h).rm.b8
                have c8y := B8.cell; have f8y := B8.frozen
                gi_wp2_with fail
                exact ⟨(KeepsFrom.of_grownBy (row := none) (below_grown x.h) (fun j e => by cases e)).trans ((KeepsOthers.setCell _ _ _).from _), HN.out (fun hl => e2 hl.2.1.symm)⟩
            · have t1 : (e.s == sl) = false := by simpa using e1
              gi_wp2_with fail
              refine wpIn_region_bw_round W.heap.size W (Below.refl _ _) (by kernel_rfl) (by kernel_rfl) (by kernel_rfl) ?_
              repeat (gi_big_quiet_step (fail))
              refine wpQuietIn_nil ?_
              intro x
              have B8 := (M.below x.h).rm.b8
              have c8y := B8.cell; have f8y := B8.frozen
              gi_wp2_with fail
              exact ⟨(KeepsFrom.of_grownBy (row := none) (below_grown x.h) (fun j e => by cases e)).trans ((KeepsOthers.setCell _ _ _).from _), HN.out (fun hl => e1 hl.1.symm)⟩
          · have g0 : decide ((n : Int) ≤ (q : Int)) = true := decide_eq_true (by omega)
            have g1 : decide (n ≤ q) = true := decide_eq_true (by omega)
            have HXX : ¬ ((pre ++ [(⟨⟨sl, ge, fu, .string b⟩, hxs⟩ : StrSL)]).length ≤ n) := by rw [List.length_append, List.length_singleton]; omega
            have HN := Lib.hid HXX
            clear HXX hq
            gi_wp2_with fail
            refine wpIn_region_bw_round W.heap.size W (Below.refl _ _) (by kernel_rfl) (by kernel_rfl) (by kernel_rfl) ?_
            repeat (gi_big_quiet_step (fail))
            refine wpQuietIn_nil ?_
            intro x
            have B8 := (M.below x.h).rm.b8
            have c8y := B8.cell; have f8y := B8.frozen
            gi_wp2_with fail
            exact ⟨(KeepsFrom.of_grownBy (row := none) (below_grown x.h) (fun j e => by cases e)).trans ((KeepsOthers.setCell _ _ _).from _), (fun hh => HN.out hh.1)⟩
        case done =>
          rintro D ys W hD hys ⟨⟨l2, all2, v2, q, hq, I2, hl2, hal2, M⟩, ⟨hb, hs⟩, hpl, hlk2⟩ hK
          have hyv : vals ys = l.filter (·.full) := hys
          have hyl : ys.length = n := by rw [← vals_len, hyv]; have := HLEN.out; have := HN0.out; omega
          have hqn : q = n := by omega
          have hq64 : n ≤ 64 := by have := HN0.out; omega
          clear hq hyl hyv hys hpl hlk2
          subst hqn
          have c22 := M.b22_.cell; have c23 := M.b23_.cell; have c9 := M.rm.b9_.cell; have c8 := M.rm.b8.cell; have f8 := M.rm.b8.frozen
          have l22 := M.b22_.lt; have l23 := M.b23_.lt; have l9 := M.rm.b9_.lt; have l8 := M.rm.b8.lt
          have HM := Lib.hid M
          have HK := Lib.hid hK
          have HI2 := Lib.hid I2
          have K23 := Lib.hid (fun (u : World) (hu : Below W.heap.size W u) => op_list (n := ((r + 1 : Nat) : Int)) I2 (by omega) (by omega) (by omega) u (M.below hu).rm.ref)
          have K26 := Lib.hid (fun (u u2 : World) (v' : Value) (hu : Below W.heap.size W u) (hv : u.ownsRow u2.heap.size 82 4 v' (l2.filterMap heldOf).length (hvs (l2.filterMap heldOf))) => has_slab I2.strs (by omega) (by omega) (M.below hu).rm.slab hv)
          clear M hK I2 hal2
          have hD2 : D < W.heap.size := (Array.getElem?_eq_some_iff.1 HK.out).1
          go_wp2_with fail
          refine wp_normal ?_
          go_region_with (first
            | (go_at_call 23; refine Calls.mono (K23.out _ ((Below.refl _ _).drew)) ?_; rintro e W1 ⟨v', rfl, b1, own1⟩; have bW1 : Below W.heap.size W W1 := (Below.refl _ W).drew.trans b1; have c91 := (bW1.cell (p := ⟨b9, 0, none⟩) l9).trans c9)
            | (go_at_call 26; refine Calls.mono (K26.out _ _ _ bW1 own1) ?_; rintro e W2 ⟨rfl, z, rfl⟩; have bW2 := bW1.trans (z.h.mono bW1.size))
            | (go_at_call 9; refine Calls.mono (lives_ok _) ?_; rintro e W3 ⟨rfl, y, rfl⟩; have bW3 := bW2.trans (y.h.mono bW2.size); have c83 := (bW3.cell (p := ⟨w.heap.size + 1, 0, none⟩) l8).trans c8; have f83 := (bW3.frozen (p := ⟨w.heap.size + 1, 0, none⟩) l8).trans f8))
          all_goals dsimp only
          all_goals go_wp2_with fail
          all_goals (have hne : D ≠ w.heap.size + 1 := by omega)
          all_goals (have hK2 : (y.i.setCell ⟨w.heap.size + 1, 0, none⟩ (.bool true)).heap[D]? = some (.deferred (some [])) := (Below.heap_setCell y.i ⟨w.heap.size + 1, 0, none⟩ (.bool true) D hne).trans ((bW3.block D hD2).trans HK.out))
          all_goals (have hc2 : (y.i.setCell ⟨w.heap.size + 1, 0, none⟩ (.bool true)).cell? ⟨w.heap.size + 1, 0, none⟩ = some (.bool true) := World.cell?_setCell_same' _ _ _ (by rw [c83]; rfl))
          all_goals (have hc3 := cell_kept hc2 (grownBy_putObj' _ D (.deferred none)) (fun r e => by cases e; exact ⟨_, hK2, rfl⟩))
          all_goals (have hb4 := ((hb.trans (bW3.mono hb.size)).setCell (p := ⟨w.heap.size + 1, 0, none⟩) (by show w.heap.size ≤ w.heap.size + 1; omega) (.bool true)).grown (grownBy_putObj' _ D (.deferred none)) (by have := hb.size; have h9 : W.heap.size ≤ y.i.heap.size := bW3.size; simp; omega) (fun j e => by cases e; omega))
          all_goals refine ⟨by simp, .inl ⟨_, _, rfl, run_takeDeferred hK2, ?_⟩⟩
          all_goals exact ⟨.bool true, by simp [results, Try.results6, go_sem, hc3], gives_of_eq rfl hb4⟩
        case stop =>
          rintro D cc pre W _ ⟨kk, hkk, hpre⟩ h _
          have hpv : vals pre = (l.take kk).filter (·.full) := hpre
          refine (h ⟨?_, ?_⟩).elim
          · have := congrArg List.length (hpv.trans (take_filter l kk))
            rw [vals_len, List.length_take] at this
            have := HLEN.out; have := HN0.out
            omega
          · rw [hpv, take_filter]; exact HLK.out.take _

end Go.Proofs.Ytpnegofmebfcgaa
