/- Top: covers, walked: can all of some points have a partner of their own. -/
import Derived.Test.YtikjelkehcnjmaaW8
namespace Go.Proofs.Ytikjelkehcnjmaa
open Go.RowKit
set_option linter.unusedVariables false
set_option linter.unusedSimpArgs false
theorem un_sub {S S' : Nat → Bool} (h : ∀ b, S b = true → S' b = true) : ∀ n, un S' n ≤ un S n
  | 0 => Nat.le_refl _
  | n + 1 => by
    have := un_sub h n
    simp only [un]
    by_cases e : S n = true
    · rw [if_pos e, if_pos (h n e)]; omega
    · rw [if_neg e]; split <;> omega
theorem barr_one (n : Nat) (s : Nat → Bool) : (barr n s).all (·.oneCell') = true := by
  rw [Array.all_eq_true]
  intro i hi
  rw [barr_size] at hi
  have := arr_get (n := n) (fun i => Value.bool (s i)) hi
  have e : (barr n s)[i]'(by rw [barr_size]; exact hi) = .bool (s i) := by
    have := Array.getElem?_eq_some_iff.1 this
    exact this.2
  rw [e]; rfl
theorem built54 : Try.prog.built 54 [] = some (barr 64 fun _ => false) := by kernel_rfl
theorem size54 : (Try.prog.info? 54).map (·.size) = some 64 := by kernel_rfl
def ptr (b : Nat) : Value := .pointer (some ⟨b, 0, none⟩)
/-- comes, as a value -/
def cfv (bo bt bf bs bc : Nat) : Value := .func (.func 30) #[] #[.pointer (some ⟨bo, 0, none⟩), .pointer (some ⟨bs, 0, none⟩), .pointer (some ⟨bt, 0, none⟩), .pointer (some ⟨bf, 0, none⟩), .pointer (some ⟨bc, 0, none⟩)]
def cm (n : Nat) (fid : Nat) (caps : Array Value) (bo bt bf bs bc : Nat) (S : Nat → Bool) (o : Nat → Option Nat) : List (Nat × Obj) :=
  [(bo, .cells #[.int .i64 n] 3 (0, 0)), (bt, .cells #[.func (.func fid) #[] caps] 66 (0, 0)), (bf, .cells (iarr 64 (toI o)) 44 (0, 0)), (bs, .cells (barr 64 S) 54 (0, 0)), (bc, .cells #[cfv bo bt bf bs bc] 71 (0, 0))]
def Came (E : Nat → Nat → Prop) (n fid : Nat) (caps : Array Value) (bo bt bf bs bc : Nat) (S : Nat → Bool) (o : Nat → Option Nat) (a : Nat) (w0 : World) (e : Ending) (w' : World) : Prop :=
  (∃ S', e = .returned (.bool false) ∧ FellTo E n S o a n S' ∧ Mem w0 w' (cm n fid caps bo bt bf bs bc S' o)) ∨ ∃ S' o', e = .returned (.bool true) ∧ Rose E n S o a o' ∧ Mem w0 w' (cm n fid caps bo bt bf bs bc S' o')
set_option maxRecDepth 20000 in
set_option maxHeartbeats 32000000 in
theorem comes_ok {w0 : World} {n fid : Nat} {caps : Array Value} {bo bt bf bs bc : Nat} {X : Nat → Nat → Bool} {L : Nat → Prop} (hn : n ≤ 64) (hcf : ∀ (args : Array Value) (u : World), Sem.run Try.prog (callFunc fid args) u = .ok (.enter fid args) u)
    (hE : ∀ u, Below w0.heap.size w0 u → ∀ a b : Nat, L a → b < n → Calls Try.prog fid (#[.int .i64 a, .int .i64 b] ++ caps) u (Gives (.bool (X a b)) u)) :
    ∀ (d : Nat) (S : Nat → Bool) (o : Nat → Option Nat) (a : Nat) (w : World), un S n ≤ d → Good (fun a b => X a b = true) n S o a → L a → (∀ b x, o b = some x → L x) → Mem w0 w (cm n fid caps bo bt bf bs bc S o) →
      Calls Try.prog 30 #[.int .i64 a, .pointer (some ⟨bo, 0, none⟩), .pointer (some ⟨bs, 0, none⟩), .pointer (some ⟨bt, 0, none⟩), .pointer (some ⟨bf, 0, none⟩), .pointer (some ⟨bc, 0, none⟩)] w (Came (fun a b => X a b = true) n fid caps bo bt bf bs bc S o a w0) := by
  have HE := Lib.hid hE
  clear hE
  intro d
  induction d using Nat.strongRecOn with
  | _ d ih =>
  have IH := Lib.hid ih
  clear ih
  intro S o a w hd hg ha ho M
  have HD := Lib.hid hd
  have HG := Lib.hid hg
  have HA := Lib.hid ha
  have HO := Lib.hid ho
  clear hd hg ha ho
  go_enter Try.func30, Try.ntmps30
  go_wp2_with fail
  go_loopg [8] n (fun gk v8 wr => ∃ (j : Nat) (S1 : Nat → Bool), gk + j = n ∧ v8 = .int .i64 j ∧ FellTo (fun a b => X a b = true) n S o a j S1 ∧ Mem w0 wr (cm n fid caps bo bt bf bs bc S1 o))
  case atStart => exact ⟨0, S, rfl, rfl, fell_zero, M⟩
  case round =>
    clear M
    obtain ⟨j, S1, hj, rfl, F, M⟩ := hrel
    have HF := Lib.hid F
    clear F
    have q0 := M.cell 0 (b := bo) rfl (j := 0) (v := .int .i64 n) rfl
    by_cases hjn : j < n
    · have q1 := M.bcell 3 (b := bs) rfl (j := j) (by omega)
      cases hs : S1 j with
      | true =>
        rw [hs] at q1
        have HS := Lib.hid hs
        clear hs
        go_wp2_with fail
        go_roundg (gk - 1)
        case measure => omega
        case rel => exact ⟨j + 1, S1, by omega, by go_num, HF.out.skip (.inl HS.out), M⟩
      | false =>
        rw [hs] at q1
        have HS := Lib.hid hs
        clear hs
        have q2 := M.cell 1 (b := bt) rfl (j := 0) (v := .func (.func fid) #[] caps) rfl
        go_wp2_with fail
        refine (HE.out _ M.below a j HA.out hjn).mono ?_
        rintro e w2 ⟨rfl, x, rfl⟩
        have M2 := M.up x.h
        clear M q0 q1 q2
        generalize x.i = w3 at *
        clear x wr
        cases hX : X a j with
        | false =>
          have HX := Lib.hid hX
          clear hX
          go_wp2_with fail
          go_roundg (gk - 1)
          case measure => omega
          case rel => exact ⟨j + 1, S1, by omega, by go_num, HF.out.skip (.inr (by rw [HX.out]; decide)), M2⟩
        | true =>
          have HX := Lib.hid hX
          clear hX
          go_wp2_with (first
            | (refine wpList_put rfl 4 _ _ (by rfl) bs j (by rfl) _ (by rfl) M2 3 (by rfl) (by rw [barr_size]; omega) size4 (by rfl) (by rfl) _ (barr_set _ (by omega)) ?_; intro w4 M4; clear M2)
            | fail)
          go_frame
          have q3 := M4.icell 2 (b := bf) rfl (j := j) (by omega)
          have q4 := M4.cell 4 (b := bc) rfl (j := 0) (v := cfv bo bt bf bs bc) rfl
          cases ho : o j with
          | none =>
            rw [toI_none ho] at q3
            have HN := Lib.hid ho
            clear ho
            refine wp_region_tailq 9 (by kernel_rfl) (by kernel_rfl) ?_
            simp only [List.take_succ_cons, List.take_zero, List.drop_succ_cons, List.drop_zero]
            repeat (go_big_quiet_step (fail))
            refine wpQuiet_nil ?_
            have M5 := M4.drew
            clear M4 q3 q4
            generalize w4.drew = w5 at *
            go_wp2_with (first
              | (refine wpList_put rfl 3 _ _ (by rfl) bf j (by rfl) _ (by rfl) M5 2 (by rfl) (by rw [iarr_size]; omega) size3 (by rfl) (by rfl) _ (give_step (by omega) a) ?_; intro w6 M6; clear M5)
              | fail)
            go_ret
            exact .inr ⟨_, _, rfl, HF.out.free HG.out hjn HS.out HX.out HN.out, M6⟩
          | some y =>
            rw [toI_some ho] at q3
            have HN := Lib.hid ho
            have hl := un_mark HS.out (n := n) hjn
            have hm := un_sub HF.out.sub n
            have C := IH.out (un (mark S1 j) n) (by have := HD.out; omega) (mark S1 j) o y
            clear hl hm
            have CC := Lib.hid (fun u hu => C u (Nat.le_refl _) (HF.out.good HG.out HS.out HN.out) (HO.out j y HN.out) HO.out hu)
            clear C ho
            have hy : ¬ (y : Int) < 0 := by omega
            unfold cfv at q4
            refine wp_region_tailq 9 (by kernel_rfl) (by kernel_rfl) ?_
            simp only [List.take_succ_cons, List.take_zero, List.drop_succ_cons, List.drop_zero]
            repeat (go_big_quiet_step (fail))
            refine wpQuiet_nil ?_
            have M5 := M4.drew
            clear M4 q3 q4
            generalize w4.drew = w5 at *
            go_wp2_with fail
            refine (CC.out _ M5).mono ?_
            clear M5
            rintro e w6 (⟨S2, rfl, R, M6⟩ | ⟨S2, o2, rfl, R, M6⟩)
            · have HR := Lib.hid R
              clear R
              go_wp2_with fail
              go_roundg (gk - 1)
              case measure => omega
              case rel => exact ⟨j + 1, S2, by omega, by go_num, HF.out.fell hjn HS.out HN.out HR.out, M6⟩
            · have HR := Lib.hid R
              clear R
              go_wp2_with (first
                | (refine wpList_put rfl 3 _ _ (by rfl) bf j (by rfl) _ (by rfl) M6 2 (by rfl) (by rw [iarr_size]; omega) size3 (by rfl) (by rfl) _ (give_step (by omega) a) ?_; intro w7 M7; clear M6)
                | fail)
              go_ret
              exact .inr ⟨_, _, rfl, HF.out.rose HG.out hjn HS.out HX.out HN.out HR.out, M7⟩
    · obtain rfl : j = n := by omega
      clear hj hjn
      go_wp2_with fail
      go_ret
      exact .inl ⟨S1, rfl, HF.out, M⟩
noncomputable def covb (E : Nat → Nat → Prop) (n : Nat) (L : Nat → Prop) : Bool := @decide (Covs E n L) (Classical.propDecidable _)
theorem covb_yes {E : Nat → Nat → Prop} {n : Nat} {L : Nat → Prop} (h : Covs E n L) : covb E n L = true := @decide_eq_true _ (Classical.propDecidable _) h
theorem covb_no {E : Nat → Nat → Prop} {n : Nat} {L : Nat → Prop} (h : ¬ Covs E n L) : covb E n L = false := @decide_eq_false _ (Classical.propDecidable _) h
theorem Covs.mono {E : Nat → Nat → Prop} {n : Nat} {L L' : Nat → Prop} (h : Covs E n L) (hl : ∀ x, L' x → L x) : Covs E n L' := by
  obtain ⟨M, h1, h2⟩ := h
  exact ⟨M, fun x hx => h1 x (hl x hx), fun x x' hx hx' => h2 x x' (hl x hx) (hl x' hx')⟩
theorem KI.same {E : Nat → Nat → Prop} {n : Nat} {o : Nat → Option Nat} {L L' : Nat → Prop} (h : KI E n o L) (hl : ∀ x, L' x ↔ L x) : KI E n o L' :=
  ⟨fun b a e => ⟨(h.edge b a e).1, (h.edge b a e).2.1, (hl a).2 (h.edge b a e).2.2⟩, h.inj, fun a ha => h.cov a ((hl a).1 ha)⟩
def nint (x : Nat) : List Value := [.int .i64 x]
theorem Rd.nint {w : World} {B n : Nat} {A : Option Addr} {xs : List Nat} (h : Rd nint 1 w B A n xs) {i x : Nat} (hx : xs[i]? = some x) : ∃ b off, A = some ⟨b, off, none⟩ ∧ b < B ∧ w.cell? ⟨b, off + i, none⟩ = some (.int .i64 x) := by
  have hi : i < n := by rw [← h.len]; exact (List.getElem?_eq_some_iff.1 hx).1
  obtain ⟨b, off, e, hl, hc⟩ := h.at_ (by omega)
  have := hc i x hx 0 _ rfl
  rw [Nat.mul_one, Nat.add_zero] at this
  exact ⟨b, off, e, hl, this⟩
theorem zero66 : (Try.prog.info? 66).map (fun i => (i.zero, i.size)) = some (some .nilFunc, 1) := by kernel_rfl
theorem zero71 : (Try.prog.info? 71).map (fun i => (i.zero, i.size)) = some (some .nilFunc, 1) := by kernel_rfl
theorem size71 : (Try.prog.info? 71).map (·.size) = some 1 := by kernel_rfl
theorem size66 : (Try.prog.info? 66).map (·.size) = some 1 := by kernel_rfl
theorem nodup_at {xs : List Nat} (h : xs.Nodup) {i k x : Nat} (hi : xs[i]? = some x) (hk : xs[k]? = some x) : i = k := by
  obtain ⟨h1, e1⟩ := List.getElem?_eq_some_iff.1 hi
  obtain ⟨h2, e2⟩ := List.getElem?_eq_some_iff.1 hk
  have p := List.pairwise_iff_getElem.1 h
  refine Classical.byContradiction fun ne => ?_
  by_cases lt : i < k
  · exact p i k h1 h2 lt (e1.trans e2.symm)
  · exact p k i h2 h1 (by omega) (e2.trans e1.symm)
set_option maxRecDepth 20000 in
set_option maxHeartbeats 32000000 in
theorem covers_ok {w : World} {n len c fid : Nat} {A : Option Addr} {caps : Array Value} {xs : List Nat} {X : Nat → Nat → Bool} (hR : Rd nint 1 w w.heap.size A len xs) (hn : n ≤ 64) (hlen : len ≤ 64) (hnd : xs.Nodup)
    (hcf : ∀ (args : Array Value) (u : World), Sem.run Try.prog (callFunc fid args) u = .ok (.enter fid args) u)
    (hE : ∀ u, Below w.heap.size w u → ∀ a b : Nat, a ∈ xs → b < n → Calls Try.prog fid (#[.int .i64 a, .int .i64 b] ++ caps) u (Gives (.bool (X a b)) u)) :
    Calls Try.prog 27 #[.slice A len c, .int .i64 n, .func (.func fid) #[] caps] w (Gives (.bool (covb (fun a b => X a b = true) n (· ∈ xs))) w) := by
  have HR := Lib.hid hR
  have HL := Lib.hid hR.len
  have HND := Lib.hid hnd
  have HCF := Lib.hid hcf
  have HE := Lib.hid hE
  clear hR hnd hcf hE
  have S0 := mem_zero w
  go_enter Try.func27, Try.ntmps27
  go_wp2_with (first
    | (refine wpList_boxnew rfl 3 _ (by rfl) _ (by rfl) #[.int .i64 n] rfl S0 ?_; intro w1 bo S1; clear S0)
    | (refine wpList_boxnew rfl 66 _ (by rfl) _ (by rfl) #[.func (.func fid) #[] caps] rfl S1 ?_; intro w2 bt S2; clear S1)
    | (refine wpList_new rfl 44 (by rfl) (iarr 64 fun _ => 0) 64 zero44 S2 ?_; intro w3 bf S3; clear S2)
    | fail)
  have e0 : iarr 64 (fun _ => 0) = iarr 64 (fun i => if i < 0 then -1 else 0) := iarr_congr fun i _ => by rw [if_neg (by omega)]
  rw [e0] at S3
  clear e0
  go_loopg [13] 64 (fun gk v13 wr => ∃ j : Nat, gk + j = 64 ∧ v13 = .int .i64 j ∧ Mem w wr [(bo, .cells #[.int .i64 n] 3 (0, 0)), (bt, .cells #[.func (.func fid) #[] caps] 66 (0, 0)), (bf, .cells (iarr 64 fun i => if i < j then -1 else 0) 44 (0, 0))])
  case atStart => exact ⟨0, rfl, rfl, S3⟩
  case round =>
    clear S3
    obtain ⟨j, hj, rfl, S⟩ := hrel
    by_cases hj2 : j < 64
    · go_wp2_with (first
        | (refine wpList_put rfl 3 _ _ (by rfl) bf j (by rfl) _ (by rfl) S 2 (by rfl) (by rw [iarr_size]; omega) size3 (by rfl) (by rfl) _ (minus_step hj2) ?_; intro w6 S6)
        | fail)
      go_roundg (gk - 1)
      case measure => omega
      case rel => exact ⟨j + 1, by omega, by go_num, S6⟩
    · obtain rfl : j = 64 := by omega
      have eF : iarr 64 (fun i => if i < 64 then -1 else 0) = iarr 64 (toI fun _ => none) := iarr_congr fun i hi => if_pos hi
      rw [eF] at S
      clear hj hj2 eF
      go_wp2_with (first
        | (refine wpList_new rfl 54 (by rfl) (barr 64 fun _ => false) 64 zero54 S ?_; intro w4 bs S4; clear S)
        | (refine wpList_new1 rfl 71 (by rfl) .nilFunc 1 zero71 rfl S4 ?_; intro w5 bc S5; clear S4)
        | (refine wpList_put rfl 71 _ _ (by rfl) bc 0 (by rfl) (cfv bo bt bf bs bc) (by rfl) S5 4 (by rfl) (by decide) size71 (by rfl) (by rfl) _ rfl ?_; intro w6 S6; clear S5)
        | fail)
      have M0 : Mem w w6 (cm n fid caps bo bt bf bs bc (fun _ => false) fun _ => none) := S6
      clear S6
      go_loopg [22] len (fun gk v22 wr => ∃ (i : Nat) (S : Nat → Bool) (o : Nat → Option Nat), gk + i = len ∧ v22 = .int .i64 i ∧ KI (fun a b => X a b = true) n o (fun x => ∃ k, k < i ∧ xs[k]? = some x) ∧ Mem w wr (cm n fid caps bo bt bf bs bc S o))
      case atStart => exact ⟨0, fun _ => false, fun _ => none, rfl, rfl, ⟨fun _ _ e => (by cases e), fun _ _ _ e => (by cases e), fun _ ⟨k, hk, _⟩ => absurd hk (Nat.not_lt_zero _)⟩, M0⟩
      case round =>
        clear M0
        obtain ⟨i, S, o, hi, rfl, K, M⟩ := hrel
        have HK := Lib.hid K
        clear K
        by_cases hil : i < len
        · obtain ⟨x, hx⟩ : ∃ x, xs[i]? = some x := ⟨_, List.getElem?_eq_getElem (by rw [HL.out]; exact hil)⟩
          have HX := Lib.hid hx
          obtain ⟨ab, ao, rfl, hab, q0⟩ := (HR.out.below M.below).nint hx
          clear hx hab
          have q1 := M.cell 4 (b := bc) rfl (j := 0) (v := cfv bo bt bf bs bc) rfl
          unfold cfv at q1
          go_wp2_with (first
            | (refine wpList_build2 (by rfl) 54 [] (by rfl) [] (by rfl) (barr 64 fun _ => false) built54 ?_)
            | (refine wpList_putrow rfl 54 _ _ (by rfl) bs (by rfl) (barr 64 fun _ => false) (by rfl) M 3 (by rfl) (by rw [barr_size]; exact size54) (by rw [barr_size, barr_size]) (barr_one _ _) ?_; intro w7 M7; clear M; have q2 := M7.cell 4 (b := bc) rfl (j := 0) (v := cfv bo bt bf bs bc) rfl; unfold cfv at q2)
            | fail)
          have hnot : ¬ ∃ k, k < i ∧ xs[k]? = some x := fun ⟨k, hk, e⟩ => by
            have := nodup_at HND.out HX.out e
            omega
          have HNOT := Lib.hid hnot
          clear hnot q0 q1 q2
          refine (comes_ok hn HCF.out (L := (· ∈ xs)) HE.out (un (fun _ => false) n) (fun _ => false) o x w7 (Nat.le_refl _) (HK.out.good HNOT.out) (List.mem_of_getElem? HX.out) (fun b y e => by obtain ⟨k, _, e⟩ := (HK.out.edge b y e).2.2; exact List.mem_of_getElem? e) M7).mono ?_
          clear M7
          rintro e w8 (⟨S2, rfl, R, M8⟩ | ⟨S2, o2, rfl, R, M8⟩)
          · have HRR := Lib.hid R
            clear R
            go_wp2_with fail
            go_ret
            refine gives_of_eq ?_ M8.below
            have hc := HK.out.fell HNOT.out HRR.out
            rw [covb_no fun h => hc (h.mono fun y hy => by
              rcases hy with ⟨k, _, e⟩ | rfl
              · exact List.mem_of_getElem? e
              · exact List.mem_of_getElem? HX.out)]
            rfl
          · have HRR := Lib.hid R
            clear R
            go_wp2_with fail
            go_roundg (gk - 1)
            case measure => omega
            case rel =>
              refine ⟨i + 1, S2, o2, by omega, by go_num, (HK.out.rose HRR.out).same fun y => ⟨?_, ?_⟩, M8⟩
              · rintro ⟨k, hk, e⟩
                by_cases z : k = i
                · subst z; rw [HX.out] at e; injection e with e; exact .inr e.symm
                · exact .inl ⟨k, by omega, e⟩
              · rintro (⟨k, hk, e⟩ | rfl)
                · exact ⟨k, by omega, e⟩
                · exact ⟨i, by omega, HX.out⟩
        · obtain rfl : i = len := by omega
          clear hi hil
          go_wp2_with fail
          go_ret
          refine gives_of_eq ?_ M.below
          rw [covb_yes (HK.out.covs.mono fun y hy => by
            obtain ⟨k, e⟩ := List.getElem?_of_mem hy
            exact ⟨k, by have := (List.getElem?_eq_some_iff.1 e).1; rw [HL.out] at this; exact this, e⟩)]
          rfl
end Go.Proofs.Ytikjelkehcnjmaa
