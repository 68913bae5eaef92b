/- Slab: the law's has: what All hands out twice over, and left early, is what is wanted, and so is Len. -/
import Derived.Test.YtpnegofmebfcgaaUC
import Derived.Test.YtpnegofmebfcgaaUA
import Derived.Test.YtpnegofmebfcgaaUH
import Derived.Test.YtpnegofmebfcgaaP2
import Derived.LoopN
import Derived.Deep.RegionWith
namespace Go.Proofs.Ytpnegofmebfcgaa
open Go.RowKit Go.Shelf
attribute [local go_sem] BW.cell BW.frozen Oper.semAt_some
set_option linter.unusedVariables false
set_option linter.unusedSimpArgs false

def HV.cells (e : HV) : List Value := [.int .i64 e.s, .int .i64 e.g, .string e.x, .bool e.gone]
/-- a thing in a slot is what is wanted there -/
def Like (s : SL) (e : HV) : Prop := s.slot = e.s ∧ s.gen = e.g ∧ s.x = .string e.x
def Likes (pre : List SL) (ws : List HV) : Prop := ∀ (i : Nat) (s : SL) (e : HV), pre[i]? = some s → ws[i]? = some e → Like s e
theorem Likes.next {pre : List SL} {ws : List HV} {s : SL} {e : HV} (h : Likes pre ws) (he : ws[pre.length]? = some e) (hl : Like s e) : Likes (pre ++ [s]) ws := by
  intro i t f ht hf
  by_cases hi : i < pre.length
  · rw [List.getElem?_append_left hi] at ht; exact h i t f ht hf
  · have : i = pre.length := by
      have := (List.getElem?_eq_some_iff.1 ht).1
      rw [List.length_append, List.length_singleton] at this; omega
    subst this
    rw [List.getElem?_append_right (Nat.le_refl _), Nat.sub_self] at ht
    cases ht
    rw [he] at hf; cases hf
    exact hl
theorem Likes.last {pre : List SL} {ws : List HV} {s : SL} {e : HV} (h : Likes (pre ++ [s]) ws) (he : ws[pre.length]? = some e) : Like s e :=
  h pre.length s e (by rw [List.getElem?_append_right (Nat.le_refl _), Nat.sub_self]; rfl) he
theorem Likes.take {fl : List SL} {ws : List HV} (h : Likes fl ws) (k : Nat) : Likes (fl.take k) ws := by
  intro i s e hs he
  rw [List.getElem?_take] at hs
  split at hs
  · exact h i s e hs he
  · cases hs
/-- a deferred block -/
def Dfr (W : World) (D : Nat) : Prop := W.heap[D]? = some (.deferred (some []))
abbrev StrSL := { s : SL // ∃ b : ByteArray, s.x = .string b }
def vals (pre : List StrSL) : List SL := pre.map (·.1)
theorem vals_len (pre : List StrSL) : (vals pre).length = pre.length := List.length_map _
theorem vals_app (pre : List StrSL) (x : StrSL) : vals (pre ++ [x]) = vals pre ++ [x.1] := by unfold vals; rw [List.map_append]; rfl
theorem fnil_s : ∀ (w : World) (a : Addr), (binOp BinOp.eql 76 (.func (.func 48) #[] #[.pointer (some a)]) .nilFunc).run Try.prog w = .ok (.bool false) w := fun _ _ => by kernel_rfl
theorem allof_s (p : Option Addr) (w : World) : Calls Try.prog 27 #[.pointer p] w fun e w' => e = .returned (.func (.func 48) #[] #[.pointer (some ⟨w.heap.size, 0, none⟩)]) ∧ w' = w.alloc (.cells #[.pointer p] 53) :=
  (callsIn_wide (n := 3)).1 (allof_in Fence.wide 3 trivial rfl p w)
theorem allof_b (p : Option Addr) (b : Nat) (w : World) (h : w.heap.size = b) : Calls Try.prog 27 #[.pointer p] w fun e w' => e = .returned (.func (.func 48) #[] #[.pointer (some ⟨b, 0, none⟩)]) ∧ w' = w.alloc (.cells #[.pointer p] 53) := by
  subst h; exact allof_s p w
theorem bytes_inj {a b : ByteArray} (h : a.toList = b.toList) : a = b := by
  rw [ByteArray.toList_eq, ByteArray.toList_eq] at h
  cases a; cases b
  congr 1
  exact Array.toList_inj.1 h
theorem wp_normal2 {P : Program} {c : Code} {Q : Exit → Act → World → Prop} {a : Act} {w : World} (h : c.wp P (fun e a w => match e with
    | .normal => Q .normal a w
    | _ => False) a w) : c.wp P Q a w := by
  refine (wpIn_wide (n := 0)).1 (wpIn_mono ((wpIn_wide (n := 0)).2 h) fun e a w h => ?_)
  cases e <;> first | exact h | exact h.elim
theorem ownFrom_dfr {β : Type} {B D : Nat} (hD : D < B) : OwnFrom B (fun (_ : β) W => Dfr W D) := fun s X Y row hs hg hr => by
  refine (hg.block D ?_ (fun e => by have := (hr D e.symm).1; omega)).trans hs
  exact (Array.getElem?_eq_some_iff.1 hs).1
theorem Dfr.lt {W : World} {D : Nat} (h : Dfr W D) : D < W.heap.size := (Array.getElem?_eq_some_iff.1 h).1
theorem Dfr.below {W W' : World} {D B : Nat} (h : Dfr W D) (hb : Below B W W') (hD : D < B) : Dfr W' D := (hb.block D hD).trans h
theorem Dfr.set {W : World} {D b i : Nat} {v u0 : Value} {t : TypeId} (h : Dfr W D) (hb : Boxed W b t u0) : Dfr (W.setCell ⟨b, i, none⟩ v) D := by
  refine (Below.heap_setCell W ⟨b, i, none⟩ v D (fun e => ?_)).trans h
  have e' : D = b := e
  subst e'
  have h1 : W.heap[D]? = some (.deferred (some [])) := h
  rw [show W.heap[D]? = _ from hb] at h1; cases h1

section
variable (p : Option Addr) (g : Nat) (fl : List SL) (w : World) (ST : World → Prop) (hST0 : ST w) (hST : ∀ W W', ST W → Below w.heap.size W W' → ST W') (NN : Nat)
  (hseq : ∀ (n : Nat) (Bs : Nat) (W : World), 1 ≤ n → ST W → Bs < W.heap.size → W.cell? ⟨Bs, 0, none⟩ = some (.pointer p) →
    SeqStopsK Fence.wide n Try.prog 48 #[.pointer (some ⟨Bs, 0, none⟩)] (fun x : StrSL => #[.agg #[.int .i64 x.1.slot, .int .i64 x.1.gen], x.1.x]) (KT 111 g) (fun ys => vals ys = fl) (fun pre => ∃ k, vals pre = fl.take k) NN W)
  (hlenf : ∀ W, ST W → Calls Try.prog 24 #[.pointer p] W (Gives (.int .i64 (fl.length : Int)) W))
  (A : Option Addr) (n c : Nat) (ws : List HV) (hw : Rd HV.cells 4 w w.heap.size A n ws) (hn : n = fl.length) (hm : n ≤ 4096) (hlk : Likes fl ws)
include hST0 hST hseq hlenf hw hn hm hlk

set_option maxRecDepth 50000 in
set_option maxHeartbeats 32000000 in
theorem has_some (h0 : 0 < n) : Calls Try.prog 26 #[.pointer p, .slice A n c] w (Gives (.bool true) w) := by
  have HQ := Lib.hid hseq
  have HS := Lib.hid hST
  have HE := Lib.hid hlenf
  have HW := Lib.hid hw
  have HLK := Lib.hid hlk
  clear hseq hST hlenf hw hlk
  have hn1 : n ≤ fl.length := by omega
  have hn2 : fl.length ≤ n := by omega

  clear hn
  refine (callsIn_wide (n := 3)).1 ?_
  refine callsIn_of_wp_marks Try.func26 rfl trivial ?_ rfl
  simp only [Try.ntmps26, List.size_toArray, List.length_cons, List.length_nil, Nat.reduceAdd, Nat.reduceSub, Array.replicate_succ, Array.replicate_zero, List.push_toArray, List.append_toArray, List.nil_append, List.cons_append]
  refine wpIn_wide.2 ?_
  have hnil := fnil_s
  go_wp2_with fail
  refine (allof_b p (w.heap.size + 2) _ (by simp)).mono ?_
  rintro e W0 ⟨rfl, rfl⟩
  have B3 := ((Boxed.new w 56 (.slice A n c)).alloc (.cells #[.bool false] 4)).alloc (.cells #[.pointer p] 53)
  have B4 : Boxed (((w.alloc (.cells #[.slice A n c] 56)).alloc (.cells #[.bool false] 4)).alloc (.cells #[.pointer p] 53)) (w.heap.size + 1) 4 (.bool false) := by
    have := (Boxed.new (w.alloc (.cells #[.slice A n c] 56)) 4 (.bool false)).alloc (.cells #[.pointer p] 53)
    rwa [World.size_alloc] at this
  have BS : Boxed (((w.alloc (.cells #[.slice A n c] 56)).alloc (.cells #[.bool false] 4)).alloc (.cells #[.pointer p] 53)) (w.heap.size + 2) 53 (.pointer p) := by
    have := Boxed.new ((w.alloc (.cells #[.slice A n c] 56)).alloc (.cells #[.bool false] 4)) 53 (.pointer p)
    rwa [World.size_alloc, World.size_alloc] at this
  have bW : Below w.heap.size w (((w.alloc (.cells #[.slice A n c] 56)).alloc (.cells #[.bool false] 4)).alloc (.cells #[.pointer p] 53)) := (((Below.refl _ w).alloc (Nat.le_refl _) _).alloc (by simp) _).alloc (by simp; omega) _
  generalize (((w.alloc (.cells #[.slice A n c] 56)).alloc (.cells #[.bool false] 4)).alloc (.cells #[.pointer p] 53)) = Wt0 at *
  go_wp2_with fail
  refine wp_loop_rounds 3 ?_
  rw [rounds_succ]
  go_wp2_with fail
  have B3x := B3.alloc (.cells #[.int .i64 0] 3)
  have B4x := B4.alloc (.cells #[.int .i64 0] 3)
  have BSx := BS.alloc (.cells #[.int .i64 0] 3)
  have B7x := Boxed.new Wt0 3 (.int .i64 0)
  have bWx := bW.alloc bW.size (.cells #[.int .i64 0] 3)
  have L7 : Wt0.heap.size < (Wt0.alloc (.cells #[.int .i64 0] 3)).heap.size := B7x.lt
  have LS := BSx.lt
  have LS0 := BS.lt
  clear B3 B4 BS bW 
  generalize Wt0.alloc (.cells #[.int .i64 0] 3) = WX0 at *
  generalize Wt0.heap.size = b70 at *
  clear Wt0
  refine (wpIn_wide (n := 3)).1 ?_
  refine range_boxed (F := Fence.wide) rfl (by decide) (gf := 48) (lb := #[.pointer (some ⟨w.heap.size + 2, 0, none⟩)]) rfl trivial (enters_of Try.func48 (by kernel_rfl) rfl)
    (HQ.out 2 (w.heap.size + 2) WX0 (by decide) (HS.out _ _ hST0 bWx) LS BSx.cell) KT.trans (KT.putObj (w := WX0)) (Below.refl _ _) (fun _ => rfl)
    (fun (pre : List StrSL) W => ((((Boxed W w.heap.size 56 (.slice A n c) ∧ Boxed W (w.heap.size + 1) 4 (.bool false)) ∧ Boxed W (w.heap.size + 2) 53 (.pointer p)) ∧ Boxed W b70 3 (.int .i64 (pre.length : Int))) ∧ True) ∧ (Below w.heap.size w W ∧ WX0.heap.size ≤ W.heap.size) ∧ (pre.length ≤ n ∧ Likes (vals pre) ws))
    (fun cc (pre : List StrSL) _ => ¬ (pre.length ≤ n ∧ Likes (vals pre) ws))
    (OwnFrom.and (OwnFrom.and (OwnFrom.and (OwnFrom.and (OwnFrom.and (Own.from (boxed_own _ _ _) _) (Own.from (boxed_own _ _ _) _)) (Own.from (boxed_own _ _ _) _)) (Own.from (boxed_own _ _ _) _)) (fun _ _ _ _ _ _ _ => trivial)) (OwnFrom.and (OwnFrom.and (ownFrom_below (Nat.le_refl _) (by omega)) (fun s A B row hs hg hr => Nat.le_trans hs hg.size)) (fun _ _ _ _ hs _ _ => hs)))
    (fun _ _ _ _ _ hs _ _ => hs)
    ⟨⟨⟨⟨⟨B3x, B4x⟩, BSx⟩, B7x⟩, trivial⟩, ⟨bWx, Nat.le_refl _⟩, Nat.zero_le _, (fun i s e h => by simp [vals] at h)⟩
    (fun W Bx x => W.cell? ⟨Bx, 0, none⟩ = some (.int .i64 x.1.slot) ∧ W.cell? ⟨Bx, 1, none⟩ = some (.int .i64 x.1.gen))
    (fun a x Bx => { tmps := (((a.tmps.setIfInBounds 20 (.agg #[.int .i64 x.1.slot, .int .i64 x.1.gen])).setIfInBounds 21 x.1.x).setIfInBounds 8 (.pointer (some ⟨Bx, 0, none⟩))).setIfInBounds 9 x.1.x, defers := [] })
    (fun Bx x s A B row hs hg hr => ⟨cell_kept hs.1 hg (fun r e => (hr r e).2), cell_kept hs.2 hg (fun r e => (hr r e).2)⟩)
    ?assign ?body ?done ?stop
  case assign =>
    rintro l pre x W K ⟨⟨⟨⟨⟨B3, B4⟩, BS⟩, B7⟩, _⟩, ⟨hb, hs⟩, hpl, hlk⟩ hK
    gi_wp2
    have h := hK W.heap.size (W.alloc (.cells #[.int .i64 x.1.slot, .int .i64 x.1.gen] 32)) hs ((KeepsOthers.alloc _ _).from _) (KT.below ((Below.refl _ W).alloc (Nat.le_refl _) _)) ⟨⟨⟨⟨⟨B3.alloc _, B4.alloc _⟩, BS.alloc _⟩, B7.alloc _⟩, trivial⟩, ⟨hb.alloc hb.size _, Nat.le_trans hs (by simp)⟩, hpl, hlk⟩ ⟨by simp [go_sem], by simp [go_sem]⟩
    simp only [List.setIfInBounds_toArray, List.set_cons_succ, List.set_cons_zero] at h
    exact h
  case body =>
    rintro l pre ⟨⟨sl, ge, fu, xx⟩, hxs⟩ Bx W hBx ⟨⟨⟨⟨⟨B3, B4⟩, BS⟩, B7⟩, _⟩, ⟨hb, hs⟩, hpl, hlk⟩ ⟨hx0, hx1⟩ hlt
    have hxs2 := hxs
    obtain ⟨b, hxb⟩ : ∃ b : ByteArray, xx = .string b := hxs2
    subst hxb
    simp only [List.setIfInBounds_toArray, List.set_cons_succ, List.set_cons_zero] at hx0 hx1 ⊢
    have c3 := B3.cell; have c4 := B4.cell; have f4 := B4.frozen; have c7 := B7.cell; have f7 := B7.frozen
    have l3 := B3.lt; have l7 := B7.lt
    have lx : Bx < W.heap.size := World.block_lt_of_cell? W _ hx0
    by_cases hin : pre.length < n
    · have g0 : decide ((n : Int) ≤ (pre.length : Int)) = false := decide_eq_false (by omega)
      have g1 : decide (n ≤ pre.length) = false := decide_eq_false (by omega)
      have hwB := HW.out.below hb
      obtain ⟨bb, off, rfl, hbl, hat⟩ := hwB.at_ (by omega)
      obtain ⟨e, he⟩ : ∃ e, ws[pre.length]? = some e := ⟨_, List.getElem?_eq_getElem (by rw [hwB.len]; exact hin)⟩
      have d0 := hat _ e he 0 _ rfl; have d1 := hat _ e he 1 _ rfl; have d2 := hat _ e he 2 _ rfl
      rw [Nat.add_zero] at d0
      have lbb : bb < W.heap.size := Nat.lt_of_lt_of_le hbl hb.size
      clear hat
      have hnot : ¬ Like ⟨sl, ge, fu, .string b⟩ e → ¬ ((pre ++ [(⟨⟨sl, ge, fu, .string b⟩, hxs⟩ : StrSL)]).length ≤ n ∧ Likes (vals (pre ++ [⟨⟨sl, ge, fu, .string b⟩, hxs⟩])) ws) := fun hne hh => hne (Likes.last (by have := hh.2; rw [vals_app] at this; exact this) (by rw [vals_len]; exact he))
      have HN := Lib.hid hnot
      clear hnot
      by_cases e1 : e.s = sl
      · by_cases e2 : e.g = ge
        · by_cases e3 : e.x = b
          · subst e1 e2 e3
            gi_wp2_with fail
            refine wpIn_region_bw_round W.heap.size W (Below.refl _ _) (by kernel_rfl) (by kernel_rfl) (by kernel_rfl) ?_
            repeat (gi_big_quiet_step (fail))
            refine wpQuietIn_nil ?_
            intro x
            have hb2 := hb.trans (x.h.mono hb.size)
            have B7y : Boxed x.i b70 3 (.int .i64 (pre.length : Int)) := (x.h.block _ B7.lt).trans B7
            have c7y := B7y.cell; have f7y := B7y.frozen
            gi_wp2_with fail
            have B3y : Boxed x.i w.heap.size 56 (.slice (some ⟨bb, off, none⟩) n c) := (x.h.block _ B3.lt).trans B3
            have B4y : Boxed x.i (w.heap.size + 1) 4 (.bool false) := (x.h.block _ B4.lt).trans B4
            have BSy : Boxed x.i (w.heap.size + 2) 53 (.pointer p) := (x.h.block _ BS.lt).trans BS
            refine ⟨(KeepsFrom.of_grownBy (row := none) (below_grown x.h) (fun j e => by cases e)).trans ((KeepsOthers.setCell _ _ _).from _), (KT.below x.h).trans (KT.set (.inr fun cur fr e => ?_)), ⟨⟨⟨⟨⟨B3y.other (by omega) _, B4y.other (by omega) _⟩, BSy.other (by omega) _⟩, ?_⟩, trivial⟩, ⟨hb2.setCell (p := ⟨b70, 0, none⟩) (by show w.heap.size ≤ b70; omega) _, Nat.le_trans hs (by simpa using x.h.size)⟩, by rw [List.length_append, List.length_singleton]; omega, by rw [vals_app]; exact hlk.next (by rw [vals_len]; exact he) ⟨rfl, rfl, rfl⟩⟩⟩
            · rw [show x.i.heap[b70]? = _ from B7y] at e; cases e
            · have := B7y.set (.int .i64 ((pre.length : Int) + 1))
              simpa using this
          · have t3 : (e.x.toList == b.toList) = false := by simp only [beq_eq_false_iff_ne]; exact fun h => e3 (bytes_inj h)
            have t3b : decide (e.x.toList = b.toList) = false := decide_eq_false (fun h => e3 (bytes_inj h))
            subst e1 e2
            gi_wp2_with fail
            refine wpIn_region_bw_round W.heap.size W (Below.refl _ _) (by kernel_rfl) (by kernel_rfl) (by kernel_rfl) ?_
            repeat (gi_big_quiet_step (fail))
            refine wpQuietIn_nil ?_
            intro x
            have B4y : Boxed x.i (w.heap.size + 1) 4 (.bool false) := (x.h.block _ B4.lt).trans B4
            have c4y := B4y.cell; have f4y := B4y.frozen
            gi_wp2_with fail
            exact ⟨(KeepsFrom.of_grownBy (row := none) (below_grown x.h) (fun j e => by cases e)).trans ((KeepsOthers.setCell _ _ _).from _), HN.out (fun hl => e3 (by have := hl.2.2; simp only at this; injection this with this; exact this.symm))⟩
        · have t2 : (e.g == ge) = false := by simpa using e2
          subst e1
          gi_wp2_with fail
          refine wpIn_region_bw_round W.heap.size W (Below.refl _ _) (by kernel_rfl) (by kernel_rfl) (by kernel_rfl) ?_
          repeat (gi_big_quiet_step (fail))
          refine wpQuietIn_nil ?_
          intro x
          have B4y : Boxed x.i (w.heap.size + 1) 4 (.bool false) := (x.h.block _ B4.lt).trans B4
          have c4y := B4y.cell; have f4y := B4y.frozen
          gi_wp2_with fail
          exact ⟨(KeepsFrom.of_grownBy (row := none) (below_grown x.h) (fun j e => by cases e)).trans ((KeepsOthers.setCell _ _ _).from _), HN.out (fun hl => e2 hl.2.1.symm)⟩
      · have t1 : (e.s == sl) = false := by simpa using e1
        gi_wp2_with fail
        refine wpIn_region_bw_round W.heap.size W (Below.refl _ _) (by kernel_rfl) (by kernel_rfl) (by kernel_rfl) ?_
        repeat (gi_big_quiet_step (fail))
        refine wpQuietIn_nil ?_
        intro x
        have B4y : Boxed x.i (w.heap.size + 1) 4 (.bool false) := (x.h.block _ B4.lt).trans B4
        have c4y := B4y.cell; have f4y := B4y.frozen
        gi_wp2_with fail
        exact ⟨(KeepsFrom.of_grownBy (row := none) (below_grown x.h) (fun j e => by cases e)).trans ((KeepsOthers.setCell _ _ _).from _), HN.out (fun hl => e1 hl.1.symm)⟩
    · have g0 : decide ((n : Int) ≤ (pre.length : Int)) = true := decide_eq_true (by omega)
      have g1 : decide (n ≤ pre.length) = true := decide_eq_true (by omega)
      gi_wp2_with fail
      refine wpIn_region_bw_round W.heap.size W (Below.refl _ _) (by kernel_rfl) (by kernel_rfl) (by kernel_rfl) ?_
      repeat (gi_big_quiet_step (fail))
      refine wpQuietIn_nil ?_
      intro x
      have B4y : Boxed x.i (w.heap.size + 1) 4 (.bool false) := (x.h.block _ B4.lt).trans B4
      have c4y := B4y.cell; have f4y := B4y.frozen
      gi_wp2_with fail
      exact ⟨(KeepsFrom.of_grownBy (row := none) (below_grown x.h) (fun j e => by cases e)).trans ((KeepsOthers.setCell _ _ _).from _), (fun hh => by have := hh.1; rw [List.length_append, List.length_singleton] at this; omega)⟩
  case stop =>
    rintro D cc pre W _ ⟨k, hk⟩ h _
    refine (h ⟨?_, ?_⟩).elim
    · have := congrArg List.length hk; rw [vals_len, List.length_take] at this; omega
    · rw [hk]; exact HLK.out.take k
  case done =>
    rintro D0 ys Wd0 hD hys ⟨⟨⟨⟨⟨B3, B4⟩, BS⟩, B7⟩, _⟩, ⟨hb, hs⟩, hpl, hlk⟩ HD0r
    have HD0 : Dfr Wd0 D0 := HD0r
    clear HD0r
    have lD0 : w.heap.size < D0 := by omega
    have hyl : ys.length = n := by rw [← vals_len, hys]; omega
    rw [hyl] at B7
    have c3 := B3.cell; have c7 := B7.cell
    go_wp2_with fail
    have LD0 : D0 < Wd0.heap.size := HD0.lt
    have LW : w.heap.size + 2 < Wd0.heap.size := BS.lt
    clear B7 hpl hlk hyl hys
    have hJ : OwnFrom Wd0.heap.size (fun (_ : List StrSL) W => ((((Boxed W w.heap.size 56 (.slice A n c) ∧ Boxed W (w.heap.size + 1) 4 (.bool false)) ∧ Boxed W (w.heap.size + 2) 53 (.pointer p)) ∧ (True ∧ Dfr W D0)) ∧ (Below w.heap.size w W ∧ Wd0.heap.size ≤ W.heap.size))) := (OwnFrom.and (OwnFrom.and (OwnFrom.and (OwnFrom.and (Own.from (boxed_own _ _ _) _) (Own.from (boxed_own _ _ _) _)) (Own.from (boxed_own _ _ _) _)) (OwnFrom.and (fun _ _ _ _ _ _ _ => trivial) (ownFrom_dfr (by omega)))) (OwnFrom.and (ownFrom_below (Nat.le_refl _) (by omega)) (fun s A B row hs hg hr => Nat.le_trans hs hg.size)))
    refine (wpIn_wide (n := 3)).1 ?_
    refine range_boxed (F := Fence.wide) rfl (by decide) (gf := 48) (lb := #[.pointer (some ⟨w.heap.size + 2, 0, none⟩)]) rfl trivial (enters_of Try.func48 (by kernel_rfl) rfl)
      (HQ.out 2 (w.heap.size + 2) Wd0 (by decide) (HS.out _ _ hST0 hb) BS.lt BS.cell) KT.trans (KT.putObj (w := Wd0)) (Below.refl _ _) (fun _ => rfl)
      (fun (pre : List StrSL) W => ((((Boxed W w.heap.size 56 (.slice A n c) ∧ Boxed W (w.heap.size + 1) 4 (.bool false)) ∧ Boxed W (w.heap.size + 2) 53 (.pointer p)) ∧ (True ∧ Dfr W D0)) ∧ (Below w.heap.size w W ∧ Wd0.heap.size ≤ W.heap.size)) ∧ pre.length = 0)
      (fun cc (pre : List StrSL) W => (cc = Code.ret ∧ ¬ Likes (vals pre) ws) ∨ (cc = Code.exit 4 ∧ ((((Boxed W w.heap.size 56 (.slice A n c) ∧ Boxed W (w.heap.size + 1) 4 (.bool false)) ∧ Boxed W (w.heap.size + 2) 53 (.pointer p)) ∧ (True ∧ Dfr W D0)) ∧ (Below w.heap.size w W ∧ Wd0.heap.size ≤ W.heap.size))))
      (OwnFrom.and hJ (fun _ _ _ _ hs _ _ => hs))
      (fun cc s A B row hs hg hr => hs.imp id (fun h => ⟨h.1, hJ s A B row h.2 hg hr⟩))
      ⟨⟨⟨⟨⟨B3, B4⟩, BS⟩, ⟨trivial, HD0⟩⟩, hb, Nat.le_refl _⟩, rfl⟩
      (fun W Bx x => W.cell? ⟨Bx, 0, none⟩ = some (.int .i64 x.1.slot) ∧ W.cell? ⟨Bx, 1, none⟩ = some (.int .i64 x.1.gen))
      (fun a x Bx => { tmps := ((a.tmps.setIfInBounds 51 (.agg #[.int .i64 x.1.slot, .int .i64 x.1.gen])).setIfInBounds 52 x.1.x).setIfInBounds 10 (.pointer (some ⟨Bx, 0, none⟩)), defers := [] })
      (fun Bx x s A B row hs hg hr => ⟨cell_kept hs.1 hg (fun r e => (hr r e).2), cell_kept hs.2 hg (fun r e => (hr r e).2)⟩)
      ?assign ?body ?done ?stop
    case assign =>
      rintro l pre x W K ⟨⟨⟨⟨⟨B3, B4⟩, BS⟩, ⟨_, HD0⟩⟩, hb, hs⟩, hpl⟩ hK
      gi_wp2
      have h := hK W.heap.size (W.alloc (.cells #[.int .i64 x.1.slot, .int .i64 x.1.gen] 32)) hs ((KeepsOthers.alloc _ _).from _) (KT.below ((Below.refl _ W).alloc (Nat.le_refl _) _)) ⟨⟨⟨⟨⟨B3.alloc _, B4.alloc _⟩, BS.alloc _⟩, ⟨trivial, HD0.below ((Below.refl W.heap.size W).alloc (Nat.le_refl _) _) HD0.lt⟩⟩, hb.alloc hb.size _, Nat.le_trans hs (by simp)⟩, hpl⟩ ⟨by simp [go_sem], by simp [go_sem]⟩
      simp only [List.setIfInBounds_toArray, List.set_cons_succ, List.set_cons_zero] at h
      exact h
    case body =>
      rintro l pre ⟨⟨sl, ge, fu, xx⟩, hxs⟩ Bx W hBx ⟨⟨⟨⟨⟨B3, B4⟩, BS⟩, ⟨_, HD0⟩⟩, hb, hs⟩, hpl⟩ ⟨hx0, hx1⟩ hlt
      simp only [List.setIfInBounds_toArray, List.set_cons_succ, List.set_cons_zero] at hx0 hx1 ⊢
      have c3 := B3.cell; have c4 := B4.cell; have f4 := B4.frozen
      have l3 := B3.lt
      have lx : Bx < W.heap.size := World.block_lt_of_cell? W _ hx0
      have hwB := HW.out.below hb
      obtain ⟨bb, off, rfl, hbl, hat⟩ := hwB.at_ (by omega)
      obtain ⟨e, he⟩ : ∃ e, ws[0]? = some e := ⟨_, List.getElem?_eq_getElem (by rw [hwB.len]; omega)⟩
      have d0 := hat _ e he 0 _ rfl; have d1 := hat _ e he 1 _ rfl
      simp only [Nat.zero_mul, Nat.add_zero] at d0 d1
      have lbb : bb < W.heap.size := Nat.lt_of_lt_of_le hbl hb.size
      clear hat
      have hnot : ¬ (sl = e.s ∧ ge = e.g) → ¬ Likes (vals (pre ++ [(⟨⟨sl, ge, fu, xx⟩, hxs⟩ : StrSL)])) ws := fun hne hh => hne (by have := hh 0 ⟨sl, ge, fu, xx⟩ e (by rw [vals_app, List.getElem?_append_right (by rw [vals_len, hpl]; exact Nat.le_refl _), vals_len, hpl]; rfl) he; exact ⟨this.1, this.2.1⟩)
      have HN := Lib.hid hnot
      clear hnot
      have z1 : ((n : Int) == 0) = false := by simp only [beq_eq_false_iff_ne]; omega
      have z2 : decide (n = 0) = false := decide_eq_false (by omega)
      have z3 : (n == 0) = false := by simp only [beq_eq_false_iff_ne]; omega
      have z4 : decide ((n : Int) = 0) = false := decide_eq_false (by omega)
      by_cases e1 : sl = e.s
      · by_cases e2 : ge = e.g
        · subst e1 e2
          gi_wp2_with fail
          refine wpIn_region_bw_round W.heap.size W (Below.refl _ _) (by kernel_rfl) (by kernel_rfl) (by kernel_rfl) ?_
          repeat (gi_big_quiet_step (fail))
          refine wpQuietIn_nil ?_
          intro x
          have hb2 := hb.trans (x.h.mono hb.size)
          gi_wp2_with fail
          refine ⟨KeepsFrom.of_grownBy (row := none) (below_grown x.h) (fun j e => by cases e), .inr ⟨rfl, ⟨⟨⟨⟨(x.h.block _ B3.lt).trans B3, (x.h.block _ B4.lt).trans B4⟩, (x.h.block _ BS.lt).trans BS⟩, ⟨trivial, HD0.below x.h HD0.lt⟩⟩, hb2, Nat.le_trans hs x.h.size⟩⟩⟩
        · have t2 : (ge == e.g) = false := by simpa using e2
          subst e1
          gi_wp2_with fail
          refine wpIn_region_bw_round W.heap.size W (Below.refl _ _) (by kernel_rfl) (by kernel_rfl) (by kernel_rfl) ?_
          repeat (gi_big_quiet_step (fail))
          refine wpQuietIn_nil ?_
          intro x
          have B4y : Boxed x.i (w.heap.size + 1) 4 (.bool false) := (x.h.block _ B4.lt).trans B4
          have c4y := B4y.cell; have f4y := B4y.frozen
          gi_wp2_with fail
          exact ⟨(KeepsFrom.of_grownBy (row := none) (below_grown x.h) (fun j e => by cases e)).trans ((KeepsOthers.setCell _ _ _).from _), .inl ⟨rfl, HN.out (fun h => e2 h.2)⟩⟩
      · have t1 : (sl == e.s) = false := by simpa using e1
        gi_wp2_with fail
        refine wpIn_region_bw_round W.heap.size W (Below.refl _ _) (by kernel_rfl) (by kernel_rfl) (by kernel_rfl) ?_
        repeat (gi_big_quiet_step (fail))
        refine wpQuietIn_nil ?_
        intro x
        have B4y : Boxed x.i (w.heap.size + 1) 4 (.bool false) := (x.h.block _ B4.lt).trans B4
        have c4y := B4y.cell; have f4y := B4y.frozen
        gi_wp2_with fail
        exact ⟨(KeepsFrom.of_grownBy (row := none) (below_grown x.h) (fun j e => by cases e)).trans ((KeepsOthers.setCell _ _ _).from _), .inl ⟨rfl, HN.out (fun h => e1 h.1)⟩⟩
    case done =>
      rintro D ys W _ hys ⟨_, hpl⟩ _
      exfalso
      have := congrArg List.length hys; rw [vals_len] at this; omega
    case stop =>
      rintro D1 cc pre Wt1 hD2 ⟨k, hk⟩ (⟨rfl, hno⟩ | ⟨rfl, ⟨⟨⟨⟨B3, B4⟩, BS⟩, ⟨_, HD0⟩⟩, hb, hs⟩⟩) HD1r
      · exact (hno (by rw [hk]; exact HLK.out.take k)).elim
      have HD1 : Dfr Wt1 D1 := HD1r
      clear HD1r
      have lD1 : w.heap.size < D1 := by omega
      have qD0D1 : D0 < D1 := by omega
      refine wpIn_wide.2 ?_
      clear hJ
      go_wp2_with fail
      rw [rounds_succ]
      clear hD hD2 c3 c7 hs
      have bW := hb
      clear hb
      go_wp2_with fail
      have B3x := B3.alloc (.cells #[.int .i64 0] 3)
      have B4x := B4.alloc (.cells #[.int .i64 0] 3)
      have BSx := BS.alloc (.cells #[.int .i64 0] 3)
      have B7x := Boxed.new Wt1 3 (.int .i64 0)
      have HD0x : Dfr (Wt1.alloc (.cells #[.int .i64 0] 3)) D0 := HD0.below ((Below.refl Wt1.heap.size Wt1).alloc (Nat.le_refl _) _) HD0.lt
      have HD1x : Dfr (Wt1.alloc (.cells #[.int .i64 0] 3)) D1 := HD1.below ((Below.refl Wt1.heap.size Wt1).alloc (Nat.le_refl _) _) HD1.lt
      have LD0 : D0 < (Wt1.alloc (.cells #[.int .i64 0] 3)).heap.size := HD0x.lt
      have LD1 : D1 < (Wt1.alloc (.cells #[.int .i64 0] 3)).heap.size := HD1x.lt
      have bWx := bW.alloc bW.size (.cells #[.int .i64 0] 3)
      have L7 : Wt1.heap.size < (Wt1.alloc (.cells #[.int .i64 0] 3)).heap.size := B7x.lt
      have LS := BSx.lt
      have LS0 := BS.lt
      clear B3 B4 BS bW HD0 HD1
      generalize Wt1.alloc (.cells #[.int .i64 0] 3) = WX1 at *
      generalize Wt1.heap.size = b71 at *
      clear Wt1
      refine (wpIn_wide (n := 3)).1 ?_
      refine range_boxed (F := Fence.wide) rfl (by decide) (gf := 48) (lb := #[.pointer (some ⟨w.heap.size + 2, 0, none⟩)]) rfl trivial (enters_of Try.func48 (by kernel_rfl) rfl)
        (HQ.out 2 (w.heap.size + 2) WX1 (by decide) (HS.out _ _ hST0 bWx) LS BSx.cell) KT.trans (KT.putObj (w := WX1)) (Below.refl _ _) (fun _ => rfl)
        (fun (pre : List StrSL) W => ((((Boxed W w.heap.size 56 (.slice A n c) ∧ Boxed W (w.heap.size + 1) 4 (.bool false)) ∧ Boxed W (w.heap.size + 2) 53 (.pointer p)) ∧ Boxed W b71 3 (.int .i64 (pre.length : Int))) ∧ ((True ∧ Dfr W D0) ∧ Dfr W D1)) ∧ (Below w.heap.size w W ∧ WX1.heap.size ≤ W.heap.size) ∧ (pre.length ≤ n ∧ Likes (vals pre) ws))
        (fun cc (pre : List StrSL) _ => ¬ (pre.length ≤ n ∧ Likes (vals pre) ws))
        (OwnFrom.and (OwnFrom.and (OwnFrom.and (OwnFrom.and (OwnFrom.and (Own.from (boxed_own _ _ _) _) (Own.from (boxed_own _ _ _) _)) (Own.from (boxed_own _ _ _) _)) (Own.from (boxed_own _ _ _) _)) (OwnFrom.and (OwnFrom.and (fun _ _ _ _ _ _ _ => trivial) (ownFrom_dfr (by omega))) (ownFrom_dfr (by omega)))) (OwnFrom.and (OwnFrom.and (ownFrom_below (Nat.le_refl _) (by omega)) (fun s A B row hs hg hr => Nat.le_trans hs hg.size)) (fun _ _ _ _ hs _ _ => hs)))
        (fun _ _ _ _ _ hs _ _ => hs)
        ⟨⟨⟨⟨⟨B3x, B4x⟩, BSx⟩, B7x⟩, ⟨⟨trivial, HD0x⟩, HD1x⟩⟩, ⟨bWx, Nat.le_refl _⟩, Nat.zero_le _, (fun i s e h => by simp [vals] at h)⟩
        (fun W Bx x => W.cell? ⟨Bx, 0, none⟩ = some (.int .i64 x.1.slot) ∧ W.cell? ⟨Bx, 1, none⟩ = some (.int .i64 x.1.gen))
        (fun a x Bx => { tmps := (((a.tmps.setIfInBounds 20 (.agg #[.int .i64 x.1.slot, .int .i64 x.1.gen])).setIfInBounds 21 x.1.x).setIfInBounds 8 (.pointer (some ⟨Bx, 0, none⟩))).setIfInBounds 9 x.1.x, defers := [] })
        (fun Bx x s A B row hs hg hr => ⟨cell_kept hs.1 hg (fun r e => (hr r e).2), cell_kept hs.2 hg (fun r e => (hr r e).2)⟩)
        ?assign ?body ?done ?stop
      case assign =>
        rintro l pre x W K ⟨⟨⟨⟨⟨B3, B4⟩, BS⟩, B7⟩, ⟨⟨_, HD0⟩, HD1⟩⟩, ⟨hb, hs⟩, hpl, hlk⟩ hK
        gi_wp2
        have h := hK W.heap.size (W.alloc (.cells #[.int .i64 x.1.slot, .int .i64 x.1.gen] 32)) hs ((KeepsOthers.alloc _ _).from _) (KT.below ((Below.refl _ W).alloc (Nat.le_refl _) _)) ⟨⟨⟨⟨⟨B3.alloc _, B4.alloc _⟩, BS.alloc _⟩, B7.alloc _⟩, ⟨⟨trivial, HD0.below ((Below.refl W.heap.size W).alloc (Nat.le_refl _) _) HD0.lt⟩, HD1.below ((Below.refl W.heap.size W).alloc (Nat.le_refl _) _) HD1.lt⟩⟩, ⟨hb.alloc hb.size _, Nat.le_trans hs (by simp)⟩, hpl, hlk⟩ ⟨by simp [go_sem], by simp [go_sem]⟩
        simp only [List.setIfInBounds_toArray, List.set_cons_succ, List.set_cons_zero] at h
        exact h
      case body =>
        rintro l pre ⟨⟨sl, ge, fu, xx⟩, hxs⟩ Bx W hBx ⟨⟨⟨⟨⟨B3, B4⟩, BS⟩, B7⟩, ⟨⟨_, HD0⟩, HD1⟩⟩, ⟨hb, hs⟩, hpl, hlk⟩ ⟨hx0, hx1⟩ hlt
        have hxs2 := hxs
        obtain ⟨b, hxb⟩ : ∃ b : ByteArray, xx = .string b := hxs2
        subst hxb
        simp only [List.setIfInBounds_toArray, List.set_cons_succ, List.set_cons_zero] at hx0 hx1 ⊢
        have c3 := B3.cell; have c4 := B4.cell; have f4 := B4.frozen; have c7 := B7.cell; have f7 := B7.frozen
        have l3 := B3.lt; have l7 := B7.lt
        have lx : Bx < W.heap.size := World.block_lt_of_cell? W _ hx0
        by_cases hin : pre.length < n
        · have g0 : decide ((n : Int) ≤ (pre.length : Int)) = false := decide_eq_false (by omega)
          have g1 : decide (n ≤ pre.length) = false := decide_eq_false (by omega)
          have hwB := HW.out.below hb
          obtain ⟨bb, off, rfl, hbl, hat⟩ := hwB.at_ (by omega)
          obtain ⟨e, he⟩ : ∃ e, ws[pre.length]? = some e := ⟨_, List.getElem?_eq_getElem (by rw [hwB.len]; exact hin)⟩
          have d0 := hat _ e he 0 _ rfl; have d1 := hat _ e he 1 _ rfl; have d2 := hat _ e he 2 _ rfl
          rw [Nat.add_zero] at d0
          have lbb : bb < W.heap.size := Nat.lt_of_lt_of_le hbl hb.size
          clear hat
          have hnot : ¬ Like ⟨sl, ge, fu, .string b⟩ e → ¬ ((pre ++ [(⟨⟨sl, ge, fu, .string b⟩, hxs⟩ : StrSL)]).length ≤ n ∧ Likes (vals (pre ++ [⟨⟨sl, ge, fu, .string b⟩, hxs⟩])) ws) := fun hne hh => hne (Likes.last (by have := hh.2; rw [vals_app] at this; exact this) (by rw [vals_len]; exact he))
          have HN := Lib.hid hnot
          clear hnot
          by_cases e1 : e.s = sl
          · by_cases e2 : e.g = ge
            · by_cases e3 : e.x = b
              · subst e1 e2 e3
                gi_wp2_with fail
                refine wpIn_region_bw_round W.heap.size W (Below.refl _ _) (by kernel_rfl) (by kernel_rfl) (by kernel_rfl) ?_
                repeat (gi_big_quiet_step (fail))
                refine wpQuietIn_nil ?_
                intro x
                have hb2 := hb.trans (x.h.mono hb.size)
                have B7y : Boxed x.i b71 3 (.int .i64 (pre.length : Int)) := (x.h.block _ B7.lt).trans B7
                have c7y := B7y.cell; have f7y := B7y.frozen
                gi_wp2_with fail
                have B3y : Boxed x.i w.heap.size 56 (.slice (some ⟨bb, off, none⟩) n c) := (x.h.block _ B3.lt).trans B3
                have B4y : Boxed x.i (w.heap.size + 1) 4 (.bool false) := (x.h.block _ B4.lt).trans B4
                have BSy : Boxed x.i (w.heap.size + 2) 53 (.pointer p) := (x.h.block _ BS.lt).trans BS
                refine ⟨(KeepsFrom.of_grownBy (row := none) (below_grown x.h) (fun j e => by cases e)).trans ((KeepsOthers.setCell _ _ _).from _), (KT.below x.h).trans (KT.set (.inr fun cur fr e => ?_)), ⟨⟨⟨⟨⟨B3y.other (by omega) _, B4y.other (by omega) _⟩, BSy.other (by omega) _⟩, ?_⟩, ⟨⟨trivial, (HD0.below x.h HD0.lt).set B7y⟩, (HD1.below x.h HD1.lt).set B7y⟩⟩, ⟨hb2.setCell (p := ⟨b71, 0, none⟩) (by show w.heap.size ≤ b71; omega) _, Nat.le_trans hs (by simpa using x.h.size)⟩, by rw [List.length_append, List.length_singleton]; omega, by rw [vals_app]; exact hlk.next (by rw [vals_len]; exact he) ⟨rfl, rfl, rfl⟩⟩⟩
                · rw [show x.i.heap[b71]? = _ from B7y] at e; cases e
                · have := B7y.set (.int .i64 ((pre.length : Int) + 1))
                  simpa using this
              · have t3 : (e.x.toList == b.toList) = false := by simp only [beq_eq_false_iff_ne]; exact fun h => e3 (bytes_inj h)
                have t3b : decide (e.x.toList = b.toList) = false := decide_eq_false (fun h => e3 (bytes_inj h))
                subst e1 e2
                gi_wp2_with fail
                refine wpIn_region_bw_round W.heap.size W (Below.refl _ _) (by kernel_rfl) (by kernel_rfl) (by kernel_rfl) ?_
                repeat (gi_big_quiet_step (fail))
                refine wpQuietIn_nil ?_
                intro x
                have B4y : Boxed x.i (w.heap.size + 1) 4 (.bool false) := (x.h.block _ B4.lt).trans B4
                have c4y := B4y.cell; have f4y := B4y.frozen
                gi_wp2_with fail
                exact ⟨(KeepsFrom.of_grownBy (row := none) (below_grown x.h) (fun j e => by cases e)).trans ((KeepsOthers.setCell _ _ _).from _), HN.out (fun hl => e3 (by have := hl.2.2; simp only at this; injection this with this; exact this.symm))⟩
            · have t2 : (e.g == ge) = false := by simpa using e2
              subst e1
              gi_wp2_with fail
              refine wpIn_region_bw_round W.heap.size W (Below.refl _ _) (by kernel_rfl) (by kernel_rfl) (by kernel_rfl) ?_
              repeat (gi_big_quiet_step (fail))
              refine wpQuietIn_nil ?_
              intro x
              have B4y : Boxed x.i (w.heap.size + 1) 4 (.bool false) := (x.h.block _ B4.lt).trans B4
              have c4y := B4y.cell; have f4y := B4y.frozen
              gi_wp2_with fail
              exact ⟨(KeepsFrom.of_grownBy (row := none) (below_grown x.h) (fun j e => by cases e)).trans ((KeepsOthers.setCell _ _ _).from _), HN.out (fun hl => e2 hl.2.1.symm)⟩
          · have t1 : (e.s == sl) = false := by simpa using e1
            gi_wp2_with fail
            refine wpIn_region_bw_round W.heap.size W (Below.refl _ _) (by kernel_rfl) (by kernel_rfl) (by kernel_rfl) ?_
            repeat (gi_big_quiet_step (fail))
            refine wpQuietIn_nil ?_
            intro x
            have B4y : Boxed x.i (w.heap.size + 1) 4 (.bool false) := (x.h.block _ B4.lt).trans B4
            have c4y := B4y.cell; have f4y := B4y.frozen
            gi_wp2_with fail
            exact ⟨(KeepsFrom.of_grownBy (row := none) (below_grown x.h) (fun j e => by cases e)).trans ((KeepsOthers.setCell _ _ _).from _), HN.out (fun hl => e1 hl.1.symm)⟩
        · have g0 : decide ((n : Int) ≤ (pre.length : Int)) = true := decide_eq_true (by omega)
          have g1 : decide (n ≤ pre.length) = true := decide_eq_true (by omega)
          gi_wp2_with fail
          refine wpIn_region_bw_round W.heap.size W (Below.refl _ _) (by kernel_rfl) (by kernel_rfl) (by kernel_rfl) ?_
          repeat (gi_big_quiet_step (fail))
          refine wpQuietIn_nil ?_
          intro x
          have B4y : Boxed x.i (w.heap.size + 1) 4 (.bool false) := (x.h.block _ B4.lt).trans B4
          have c4y := B4y.cell; have f4y := B4y.frozen
          gi_wp2_with fail
          exact ⟨(KeepsFrom.of_grownBy (row := none) (below_grown x.h) (fun j e => by cases e)).trans ((KeepsOthers.setCell _ _ _).from _), (fun hh => by have := hh.1; rw [List.length_append, List.length_singleton] at this; omega)⟩
      case stop =>
        rintro D cc pre W _ ⟨k, hk⟩ h _
        refine (h ⟨?_, ?_⟩).elim
        · have := congrArg List.length hk; rw [vals_len, List.length_take] at this; omega
        · rw [hk]; exact HLK.out.take k
      case done =>
        rintro D2 ys Wd1 hD hys ⟨⟨⟨⟨⟨B3, B4⟩, BS⟩, B7⟩, ⟨⟨_, HD0⟩, HD1⟩⟩, ⟨hb, hs⟩, hpl, hlk⟩ HD2r
        have HD2 : Dfr Wd1 D2 := HD2r
        clear HD2r
        have lD2 : w.heap.size < D2 := by omega
        have qD0D2 : D0 < D2 := by omega
        have qD1D2 : D1 < D2 := by omega
        have hyl : ys.length = n := by rw [← vals_len, hys]; omega
        rw [hyl] at B7
        have c3 := B3.cell; have c7 := B7.cell
        go_wp2_with fail
        have LD0 : D0 < Wd1.heap.size := HD0.lt
        have LD1 : D1 < Wd1.heap.size := HD1.lt
        have LD2 : D2 < Wd1.heap.size := HD2.lt
        have LW : w.heap.size + 2 < Wd1.heap.size := BS.lt
        clear B7 hpl hlk hyl hys
        have hJ : OwnFrom Wd1.heap.size (fun (_ : List StrSL) W => ((((Boxed W w.heap.size 56 (.slice A n c) ∧ Boxed W (w.heap.size + 1) 4 (.bool false)) ∧ Boxed W (w.heap.size + 2) 53 (.pointer p)) ∧ (((True ∧ Dfr W D0) ∧ Dfr W D1) ∧ Dfr W D2)) ∧ (Below w.heap.size w W ∧ Wd1.heap.size ≤ W.heap.size))) := (OwnFrom.and (OwnFrom.and (OwnFrom.and (OwnFrom.and (Own.from (boxed_own _ _ _) _) (Own.from (boxed_own _ _ _) _)) (Own.from (boxed_own _ _ _) _)) (OwnFrom.and (OwnFrom.and (OwnFrom.and (fun _ _ _ _ _ _ _ => trivial) (ownFrom_dfr (by omega))) (ownFrom_dfr (by omega))) (ownFrom_dfr (by omega)))) (OwnFrom.and (ownFrom_below (Nat.le_refl _) (by omega)) (fun s A B row hs hg hr => Nat.le_trans hs hg.size)))
        refine (wpIn_wide (n := 3)).1 ?_
        refine range_boxed (F := Fence.wide) rfl (by decide) (gf := 48) (lb := #[.pointer (some ⟨w.heap.size + 2, 0, none⟩)]) rfl trivial (enters_of Try.func48 (by kernel_rfl) rfl)
          (HQ.out 2 (w.heap.size + 2) Wd1 (by decide) (HS.out _ _ hST0 hb) BS.lt BS.cell) KT.trans (KT.putObj (w := Wd1)) (Below.refl _ _) (fun _ => rfl)
          (fun (pre : List StrSL) W => ((((Boxed W w.heap.size 56 (.slice A n c) ∧ Boxed W (w.heap.size + 1) 4 (.bool false)) ∧ Boxed W (w.heap.size + 2) 53 (.pointer p)) ∧ (((True ∧ Dfr W D0) ∧ Dfr W D1) ∧ Dfr W D2)) ∧ (Below w.heap.size w W ∧ Wd1.heap.size ≤ W.heap.size)) ∧ pre.length = 0)
          (fun cc (pre : List StrSL) W => (cc = Code.ret ∧ ¬ Likes (vals pre) ws) ∨ (cc = Code.exit 4 ∧ ((((Boxed W w.heap.size 56 (.slice A n c) ∧ Boxed W (w.heap.size + 1) 4 (.bool false)) ∧ Boxed W (w.heap.size + 2) 53 (.pointer p)) ∧ (((True ∧ Dfr W D0) ∧ Dfr W D1) ∧ Dfr W D2)) ∧ (Below w.heap.size w W ∧ Wd1.heap.size ≤ W.heap.size))))
          (OwnFrom.and hJ (fun _ _ _ _ hs _ _ => hs))
          (fun cc s A B row hs hg hr => hs.imp id (fun h => ⟨h.1, hJ s A B row h.2 hg hr⟩))
          ⟨⟨⟨⟨⟨B3, B4⟩, BS⟩, ⟨⟨⟨trivial, HD0⟩, HD1⟩, HD2⟩⟩, hb, Nat.le_refl _⟩, rfl⟩
          (fun W Bx x => W.cell? ⟨Bx, 0, none⟩ = some (.int .i64 x.1.slot) ∧ W.cell? ⟨Bx, 1, none⟩ = some (.int .i64 x.1.gen))
          (fun a x Bx => { tmps := ((a.tmps.setIfInBounds 51 (.agg #[.int .i64 x.1.slot, .int .i64 x.1.gen])).setIfInBounds 52 x.1.x).setIfInBounds 10 (.pointer (some ⟨Bx, 0, none⟩)), defers := [] })
          (fun Bx x s A B row hs hg hr => ⟨cell_kept hs.1 hg (fun r e => (hr r e).2), cell_kept hs.2 hg (fun r e => (hr r e).2)⟩)
          ?assign ?body ?done ?stop
        case assign =>
          rintro l pre x W K ⟨⟨⟨⟨⟨B3, B4⟩, BS⟩, ⟨⟨⟨_, HD0⟩, HD1⟩, HD2⟩⟩, hb, hs⟩, hpl⟩ hK
          gi_wp2
          have h := hK W.heap.size (W.alloc (.cells #[.int .i64 x.1.slot, .int .i64 x.1.gen] 32)) hs ((KeepsOthers.alloc _ _).from _) (KT.below ((Below.refl _ W).alloc (Nat.le_refl _) _)) ⟨⟨⟨⟨⟨B3.alloc _, B4.alloc _⟩, BS.alloc _⟩, ⟨⟨⟨trivial, HD0.below ((Below.refl W.heap.size W).alloc (Nat.le_refl _) _) HD0.lt⟩, HD1.below ((Below.refl W.heap.size W).alloc (Nat.le_refl _) _) HD1.lt⟩, HD2.below ((Below.refl W.heap.size W).alloc (Nat.le_refl _) _) HD2.lt⟩⟩, hb.alloc hb.size _, Nat.le_trans hs (by simp)⟩, hpl⟩ ⟨by simp [go_sem], by simp [go_sem]⟩
          simp only [List.setIfInBounds_toArray, List.set_cons_succ, List.set_cons_zero] at h
          exact h
        case body =>
          rintro l pre ⟨⟨sl, ge, fu, xx⟩, hxs⟩ Bx W hBx ⟨⟨⟨⟨⟨B3, B4⟩, BS⟩, ⟨⟨⟨_, HD0⟩, HD1⟩, HD2⟩⟩, hb, hs⟩, hpl⟩ ⟨hx0, hx1⟩ hlt
          simp only [List.setIfInBounds_toArray, List.set_cons_succ, List.set_cons_zero] at hx0 hx1 ⊢
          have c3 := B3.cell; have c4 := B4.cell; have f4 := B4.frozen
          have l3 := B3.lt
          have lx : Bx < W.heap.size := World.block_lt_of_cell? W _ hx0
          have hwB := HW.out.below hb
          obtain ⟨bb, off, rfl, hbl, hat⟩ := hwB.at_ (by omega)
          obtain ⟨e, he⟩ : ∃ e, ws[0]? = some e := ⟨_, List.getElem?_eq_getElem (by rw [hwB.len]; omega)⟩
          have d0 := hat _ e he 0 _ rfl; have d1 := hat _ e he 1 _ rfl
          simp only [Nat.zero_mul, Nat.add_zero] at d0 d1
          have lbb : bb < W.heap.size := Nat.lt_of_lt_of_le hbl hb.size
          clear hat
          have hnot : ¬ (sl = e.s ∧ ge = e.g) → ¬ Likes (vals (pre ++ [(⟨⟨sl, ge, fu, xx⟩, hxs⟩ : StrSL)])) ws := fun hne hh => hne (by have := hh 0 ⟨sl, ge, fu, xx⟩ e (by rw [vals_app, List.getElem?_append_right (by rw [vals_len, hpl]; exact Nat.le_refl _), vals_len, hpl]; rfl) he; exact ⟨this.1, this.2.1⟩)
          have HN := Lib.hid hnot
          clear hnot
          have z1 : ((n : Int) == 0) = false := by simp only [beq_eq_false_iff_ne]; omega
          have z2 : decide (n = 0) = false := decide_eq_false (by omega)
          have z3 : (n == 0) = false := by simp only [beq_eq_false_iff_ne]; omega
          have z4 : decide ((n : Int) = 0) = false := decide_eq_false (by omega)
          by_cases e1 : sl = e.s
          · by_cases e2 : ge = e.g
            · subst e1 e2
              gi_wp2_with fail
              refine wpIn_region_bw_round W.heap.size W (Below.refl _ _) (by kernel_rfl) (by kernel_rfl) (by kernel_rfl) ?_
              repeat (gi_big_quiet_step (fail))
              refine wpQuietIn_nil ?_
              intro x
              have hb2 := hb.trans (x.h.mono hb.size)
              gi_wp2_with fail
              refine ⟨KeepsFrom.of_grownBy (row := none) (below_grown x.h) (fun j e => by cases e), .inr ⟨rfl, ⟨⟨⟨⟨(x.h.block _ B3.lt).trans B3, (x.h.block _ B4.lt).trans B4⟩, (x.h.block _ BS.lt).trans BS⟩, ⟨⟨⟨trivial, HD0.below x.h HD0.lt⟩, HD1.below x.h HD1.lt⟩, HD2.below x.h HD2.lt⟩⟩, hb2, Nat.le_trans hs x.h.size⟩⟩⟩
            · have t2 : (ge == e.g) = false := by simpa using e2
              subst e1
              gi_wp2_with fail
              refine wpIn_region_bw_round W.heap.size W (Below.refl _ _) (by kernel_rfl) (by kernel_rfl) (by kernel_rfl) ?_
              repeat (gi_big_quiet_step (fail))
              refine wpQuietIn_nil ?_
              intro x
              have B4y : Boxed x.i (w.heap.size + 1) 4 (.bool false) := (x.h.block _ B4.lt).trans B4
              have c4y := B4y.cell; have f4y := B4y.frozen
              gi_wp2_with fail
              exact ⟨(KeepsFrom.of_grownBy (row := none) (below_grown x.h) (fun j e => by cases e)).trans ((KeepsOthers.setCell _ _ _).from _), .inl ⟨rfl, HN.out (fun h => e2 h.2)⟩⟩
          · have t1 : (sl == e.s) = false := by simpa using e1
            gi_wp2_with fail
            refine wpIn_region_bw_round W.heap.size W (Below.refl _ _) (by kernel_rfl) (by kernel_rfl) (by kernel_rfl) ?_
            repeat (gi_big_quiet_step (fail))
            refine wpQuietIn_nil ?_
            intro x
            have B4y : Boxed x.i (w.heap.size + 1) 4 (.bool false) := (x.h.block _ B4.lt).trans B4
            have c4y := B4y.cell; have f4y := B4y.frozen
            gi_wp2_with fail
            exact ⟨(KeepsFrom.of_grownBy (row := none) (below_grown x.h) (fun j e => by cases e)).trans ((KeepsOthers.setCell _ _ _).from _), .inl ⟨rfl, HN.out (fun h => e1 h.1)⟩⟩
        case done =>
          rintro D ys W _ hys ⟨_, hpl⟩ _
          exfalso
          have := congrArg List.length hys; rw [vals_len] at this; omega
        case stop =>
          rintro D3 cc pre Wt2 hD2 ⟨k, hk⟩ (⟨rfl, hno⟩ | ⟨rfl, ⟨⟨⟨⟨B3, B4⟩, BS⟩, ⟨⟨⟨_, HD0⟩, HD1⟩, HD2⟩⟩, hb, hs⟩⟩) HD3r
          · exact (hno (by rw [hk]; exact HLK.out.take k)).elim
          have HD3 : Dfr Wt2 D3 := HD3r
          clear HD3r
          have lD3 : w.heap.size < D3 := by omega
          have qD0D3 : D0 < D3 := by omega
          have qD1D3 : D1 < D3 := by omega
          have qD2D3 : D2 < D3 := by omega
          refine wpIn_wide.2 ?_
          clear hJ
          go_wp2_with fail
          rw [rounds_succ]
          clear hD hD2 c3 c7 hs
          go_wp2_with fail
          have hfn : fl.length = n := by omega
          have K24 := Lib.hid (fun (u : World) (hu : Below w.heap.size w u) => by
            have := HE.out u (HS.out _ _ hST0 hu)
            rw [hfn] at this
            exact this)
          have HB := Lib.hid hb
          have c3 := B3.cell; have l3 := B3.lt; have c4 := B4.cell; have f4 := B4.frozen; have l4 := B4.lt
          clear hfn hn1 hn2
          refine wp_normal2 ?_
          go_region_with (go_at_call 24; refine Calls.mono (K24.out _ (by first | exact HB.out | exact HB.out.drew)) ?_; rintro e w' ⟨rfl, z, rfl⟩; have c32 := (z.h.cell (p := ⟨w.heap.size, 0, none⟩) l3).trans c3; have c42 := (z.h.cell (p := ⟨w.heap.size + 1, 0, none⟩) l4).trans c4; have f42 := (z.h.frozen (p := ⟨w.heap.size + 1, 0, none⟩) l4).trans f4; have hbz := HB.out.drew.trans (z.h.mono HB.out.size))
          all_goals dsimp only
          all_goals go_wp2_with fail
          all_goals (have kD0 : (z.i.setCell ⟨w.heap.size + 1, 0, none⟩ (.bool true)).heap[D0]? = some (.deferred (some [])) := (Below.heap_setCell z.i ⟨w.heap.size + 1, 0, none⟩ (.bool true) D0 (fun e => by have h4 := B4; have hd := HD0; have e' : D0 = w.heap.size + 1 := e; subst e'; have h1 : Wt2.heap[w.heap.size + 1]? = some (.deferred (some [])) := hd; rw [show Wt2.heap[w.heap.size + 1]? = _ from h4] at h1; cases h1)).trans ((z.h.block D0 HD0.lt).trans HD0))
          all_goals (have kD1 : (z.i.setCell ⟨w.heap.size + 1, 0, none⟩ (.bool true)).heap[D1]? = some (.deferred (some [])) := (Below.heap_setCell z.i ⟨w.heap.size + 1, 0, none⟩ (.bool true) D1 (fun e => by have h4 := B4; have hd := HD1; have e' : D1 = w.heap.size + 1 := e; subst e'; have h1 : Wt2.heap[w.heap.size + 1]? = some (.deferred (some [])) := hd; rw [show Wt2.heap[w.heap.size + 1]? = _ from h4] at h1; cases h1)).trans ((z.h.block D1 HD1.lt).trans HD1))
          all_goals (have kD2 : (z.i.setCell ⟨w.heap.size + 1, 0, none⟩ (.bool true)).heap[D2]? = some (.deferred (some [])) := (Below.heap_setCell z.i ⟨w.heap.size + 1, 0, none⟩ (.bool true) D2 (fun e => by have h4 := B4; have hd := HD2; have e' : D2 = w.heap.size + 1 := e; subst e'; have h1 : Wt2.heap[w.heap.size + 1]? = some (.deferred (some [])) := hd; rw [show Wt2.heap[w.heap.size + 1]? = _ from h4] at h1; cases h1)).trans ((z.h.block D2 HD2.lt).trans HD2))
          all_goals (have kD3 : (z.i.setCell ⟨w.heap.size + 1, 0, none⟩ (.bool true)).heap[D3]? = some (.deferred (some [])) := (Below.heap_setCell z.i ⟨w.heap.size + 1, 0, none⟩ (.bool true) D3 (fun e => by have h4 := B4; have hd := HD3; have e' : D3 = w.heap.size + 1 := e; subst e'; have h1 : Wt2.heap[w.heap.size + 1]? = some (.deferred (some [])) := hd; rw [show Wt2.heap[w.heap.size + 1]? = _ from h4] at h1; cases h1)).trans ((z.h.block D3 HD3.lt).trans HD3))
          all_goals (have hc2 : (z.i.setCell ⟨w.heap.size + 1, 0, none⟩ (.bool true)).cell? ⟨w.heap.size + 1, 0, none⟩ = some (.bool true) := World.cell?_setCell_same' _ _ _ (by rw [c42]; rfl))
          all_goals (have hb2 := hbz.setCell (p := ⟨w.heap.size + 1, 0, none⟩) (by show w.heap.size ≤ w.heap.size + 1; omega) (.bool true))
          all_goals generalize z.i.setCell ⟨w.heap.size + 1, 0, none⟩ (.bool true) = U0 at *
          all_goals (have hc3 := cell_kept hc2 (grownBy_putObj' U0 D3 (.deferred none)) (fun r e => by cases e; exact ⟨_, kD3, rfl⟩))
          all_goals (have hb3 := hb2.grown (grownBy_putObj' U0 D3 (.deferred none)) hb2.size (fun j e => by cases e; exact Nat.le_of_lt lD3))
          all_goals (have kD2 : (U0.putObj D3 (.deferred none)).heap[D2]? = some (.deferred (some [])) := (World.putObj_heap_other (by omega : D2 ≠ D3)).trans kD2)
          all_goals (have kD1 : (U0.putObj D3 (.deferred none)).heap[D1]? = some (.deferred (some [])) := (World.putObj_heap_other (by omega : D1 ≠ D3)).trans kD1)
          all_goals (have kD0 : (U0.putObj D3 (.deferred none)).heap[D0]? = some (.deferred (some [])) := (World.putObj_heap_other (by omega : D0 ≠ D3)).trans kD0)
          all_goals refine ⟨by simp, .inl ⟨_, _, rfl, run_takeDeferred kD3, ?_⟩⟩
          all_goals generalize hU1 : U0.putObj D3 (.deferred none) = U1 at *
          all_goals (have hc4 := cell_kept hc3 (grownBy_putObj' U1 D2 (.deferred none)) (fun r e => by cases e; exact ⟨_, kD2, rfl⟩))
          all_goals (have hb4 := hb3.grown (grownBy_putObj' U1 D2 (.deferred none)) hb3.size (fun j e => by cases e; exact Nat.le_of_lt lD2))
          all_goals (have kD1 : (U1.putObj D2 (.deferred none)).heap[D1]? = some (.deferred (some [])) := (World.putObj_heap_other (by omega : D1 ≠ D2)).trans kD1)
          all_goals (have kD0 : (U1.putObj D2 (.deferred none)).heap[D0]? = some (.deferred (some [])) := (World.putObj_heap_other (by omega : D0 ≠ D2)).trans kD0)
          all_goals refine ⟨by simp, .inl ⟨_, _, rfl, run_takeDeferred kD2, ?_⟩⟩
          all_goals generalize hU2 : U1.putObj D2 (.deferred none) = U2 at *
          all_goals (have hc5 := cell_kept hc4 (grownBy_putObj' U2 D1 (.deferred none)) (fun r e => by cases e; exact ⟨_, kD1, rfl⟩))
          all_goals (have hb5 := hb4.grown (grownBy_putObj' U2 D1 (.deferred none)) hb4.size (fun j e => by cases e; exact Nat.le_of_lt lD1))
          all_goals (have kD0 : (U2.putObj D1 (.deferred none)).heap[D0]? = some (.deferred (some [])) := (World.putObj_heap_other (by omega : D0 ≠ D1)).trans kD0)
          all_goals refine ⟨by simp, .inl ⟨_, _, rfl, run_takeDeferred kD1, ?_⟩⟩
          all_goals generalize hU3 : U2.putObj D1 (.deferred none) = U3 at *
          all_goals (have hc6 := cell_kept hc5 (grownBy_putObj' U3 D0 (.deferred none)) (fun r e => by cases e; exact ⟨_, kD0, rfl⟩))
          all_goals (have hb6 := hb5.grown (grownBy_putObj' U3 D0 (.deferred none)) hb5.size (fun j e => by cases e; exact Nat.le_of_lt lD0))
          all_goals refine ⟨by simp, .inl ⟨_, _, rfl, run_takeDeferred kD0, ?_⟩⟩
          all_goals exact ⟨.bool true, by simp [results, Try.results26, go_sem, hc6], gives_of_eq rfl hb6⟩
end
end Go.Proofs.Ytpnegofmebfcgaa
