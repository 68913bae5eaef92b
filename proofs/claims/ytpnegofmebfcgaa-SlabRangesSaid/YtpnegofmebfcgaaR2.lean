/- A slab of strings and the reference's, side by side: each method answers the same. -/
import Derived.Test.YtpnegofmebfcgaaR1
import Derived.Test.YtpnegofmebfcgaaUH
import Derived.Test.YtpnegofmebfcgaaG2
import Derived.Test.YtpnegofmebfcgaaUB
import Derived.Test.YtpnegofmebfcgaaUC
namespace Go.Proofs.Ytpnegofmebfcgaa
open Go.RowKit Go.Shelf
set_option linter.unusedVariables false

section
variable {l : List SL} {all : List HV} {ps g B bm o : Nat} {v : Value} {n : Int}

/-- find, on both sides -/
theorem find_two (h : RInv l all) (hm : all.length ≤ 9223372036854775807) (hs hg : Int) :
    (∃ (i : Nat) (e : HV) (j : Nat) (t : SL), all[i]? = some e ∧ e.gone = false ∧ e.s = j ∧ l[j]? = some t ∧ t.x = .string e.x ∧
      (∀ w, SlabAt 111 w ps g l → Calls Try.prog 49 #[.pointer (some ⟨ps, 0, none⟩), .agg #[.int .i64 hs, .int .i64 hg]] w (Gives (.pointer (some ⟨g, j * 4, none⟩)) w)) ∧
      (∀ w, RefAt B w bm o v n all → Calls Try.prog 50 #[.pointer (some ⟨bm, o, none⟩), .agg #[.int .i64 hs, .int .i64 hg]] w (Gives (.int .i64 i) w))) ∨
    ((∀ w, SlabAt 111 w ps g l → Calls Try.prog 49 #[.pointer (some ⟨ps, 0, none⟩), .agg #[.int .i64 hs, .int .i64 hg]] w (Gives (.pointer none) w)) ∧
      (∀ w, RefAt B w bm o v n all → Calls Try.prog 50 #[.pointer (some ⟨bm, o, none⟩), .agg #[.int .i64 hs, .int .i64 hg]] w (Gives (.int .i64 (-1)) w))) := by
  rcases h.find hs hg with ⟨i, e, j, t, hi, es, eg, ego, hj, ht, hf, hsl, hgen, hx, hb⟩ | ⟨hb, hno⟩
  · subst hj
    exact .inl ⟨i, e, j, t, hi, ego, es, ht, hx, fun w hw => finds_hit ps g l j t hg w hw ht hf hsl hgen, fun w hw => rfind_hit B bm o v n all _ hg i e w hw hi es eg ego hb hm⟩
  · refine .inr ⟨fun w hw => ?_, fun w hw => rfind_miss B bm o v n all hs hg w hw hb hm⟩
    by_cases h0 : hs < 0
    · exact finds_neg ps g l hs hg w hw h0
    · by_cases h1 : (l.length : Int) ≤ hs
      · exact finds_over ps g l hs hg w hw h0 h1
      · obtain ⟨j, rfl⟩ : ∃ j : Nat, hs = j := ⟨hs.toNat, by omega⟩
        obtain ⟨t, ht⟩ : ∃ t, l[j]? = some t := ⟨_, List.getElem?_eq_getElem (by omega)⟩
        cases hf : t.full with
        | false => exact finds_free ps g l j t hg w hw ht hf
        | true => exact finds_old ps g l j t hg w hw ht hf ((h.slot j t ht).2.2 hf).1 (hno j t rfl ht hf)

theorem op_get (h : RInv l all) (hm : all.length ≤ 9223372036854775807) (hs hg : Int) : ∃ (x : ByteArray) (b : Bool),
    (∀ w, SlabAt 111 w ps g l → Calls Try.prog 39 #[.pointer (some ⟨ps, 0, none⟩), .agg #[.int .i64 hs, .int .i64 hg]] w (Gives (.tuple #[.string x, .bool b]) w)) ∧
    (∀ w, RefAt B w bm o v n all → Calls Try.prog 44 #[.pointer (some ⟨bm, o, none⟩), .agg #[.int .i64 hs, .int .i64 hg]] w (Gives (.tuple #[.string x, .bool b]) w)) := by
  rcases find_two (ps := ps) (g := g) (B := B) (bm := bm) (o := o) (v := v) (n := n) h hm hs hg with ⟨i, e, j, t, hi, ego, es, ht, hx, K1, K2⟩ | ⟨K1, K2⟩
  · refine ⟨e.x, true, fun w hw => ?_, fun w hw => rget_hit B bm o v n all hs hg w hw i e hi K2⟩
    have := gets_hit ps g j l t hs hg w hw ht K1
    rwa [hx] at this
  · exact ⟨.empty, false, fun w hw => gets_miss ps g l hs hg w hw K1, fun w hw => rget_miss B bm o v n all hs hg w hw K2⟩

theorem op_set (h : RInv l all) (hm : all.length ≤ 9223372036854775807) (hs hg : Int) (x : ByteArray) : ∃ (b : Bool) (l' : List SL) (all' : List HV), RInv l' all' ∧ l'.length = l.length ∧ all'.length = all.length ∧
    (∀ w, SlabAt 111 w ps g l → Calls Try.prog 45 #[.pointer (some ⟨ps, 0, none⟩), .agg #[.int .i64 hs, .int .i64 hg], .string x] w (Turns 111 ps g (.bool b) l' w)) ∧
    (∀ w, RefAt B w bm o v n all → Calls Try.prog 46 #[.pointer (some ⟨bm, o, none⟩), .agg #[.int .i64 hs, .int .i64 hg], .string x] w fun r w' => r = .returned (.bool b) ∧ RTurn bm o v.ownBlock w w' ∧ RefAt B w' bm o v n all') := by
  rcases find_two (ps := ps) (g := g) (B := B) (bm := bm) (o := o) (v := v) (n := n) h hm hs hg with ⟨i, e, j, t, hi, ego, es, ht, hx, K1, K2⟩ | ⟨K1, K2⟩
  · exact ⟨true, _, _, h.set hi ego es ht x, List.length_set, List.length_set, fun w hw => sets_hit ps g j l t hs hg x w hw ht K1, fun w hw => rset_hit B bm o v n all hs hg w hw i e hi x K2⟩
  · exact ⟨false, l, all, h, rfl, rfl, fun w hw => Calls.turns hw (sets_miss ps g l hs hg x w hw K1), fun w hw => (rset_miss B bm o v n all hs hg w hw x K2).mono fun r w' ⟨hr, y, hy⟩ => ⟨hr, hy ▸ RTurn.of_grown (below_grown y.h) hw.lm hw.one, hy ▸ hw.below y.h⟩⟩

theorem op_drop (h : RInv l all) (hm : all.length ≤ 9223372036854775807) (hs hg : Int) : ∃ (x : ByteArray) (b : Bool) (l' : List SL) (all' : List HV), RInv l' all' ∧ l'.length = l.length ∧ all'.length = all.length ∧
    (∀ w, SlabAt 111 w ps g l → Calls Try.prog 30 #[.pointer (some ⟨ps, 0, none⟩), .agg #[.int .i64 hs, .int .i64 hg]] w (Turns 111 ps g (.tuple #[.string x, .bool b]) l' w)) ∧
    (∀ w, RefAt B w bm o v n all → Calls Try.prog 31 #[.pointer (some ⟨bm, o, none⟩), .agg #[.int .i64 hs, .int .i64 hg]] w fun r w' => r = .returned (.tuple #[.string x, .bool b]) ∧ RTurn bm o v.ownBlock w w' ∧ RefAt B w' bm o v n all') := by
  rcases find_two (ps := ps) (g := g) (B := B) (bm := bm) (o := o) (v := v) (n := n) h hm hs hg with ⟨i, e, j, t, hi, ego, es, ht, hx, K1, K2⟩ | ⟨K1, K2⟩
  · refine ⟨e.x, true, _, _, h.drop hi ego es ht, List.length_set, List.length_set, fun w hw => ?_, fun w hw => rdrop_hit B bm o v n all hs hg w hw i e hi K2⟩
    have := drops_hit ps g j l t hs hg w hw ht K1
    rw [hx] at this
    exact this
  · exact ⟨.empty, false, l, all, h, rfl, rfl, fun w hw => Calls.turns hw (drops_miss ps g l hs hg w hw K1), fun w hw => (rdrop_miss B bm o v n all hs hg w hw K2).mono fun r w' ⟨hr, y, hy⟩ => ⟨hr, hy ▸ RTurn.of_grown (below_grown y.h) hw.lm hw.one, hy ▸ hw.below y.h⟩⟩

/-- what the reference's in answers -/
theorem in_full (h : RInv l all) (hm : all.length ≤ 9223372036854775807) {j : Nat} {t : SL} (ht : l[j]? = some t) (hf : t.full = true) : ∃ (r : Nat) (e : HV), all[r]? = some e ∧ heldOf t = some e ∧
    ∀ w, RefAt B w bm o v n all → Calls Try.prog 47 #[.pointer (some ⟨bm, o, none⟩), .int .i64 (j : Int)] w (Gives (.int .i64 r) w) := by
  obtain ⟨i, e, hi, he, hsl, hx, hb⟩ := h.live ht hf
  refine ⟨i, e, hi, ?_, fun w hw => in_hit B bm o v n all j i e w hw hi (by rw [he]) (by rw [he]) (fun k u hk hu hus => hb k u hk hu hus) hm⟩
  unfold heldOf
  rw [hf, hsl, hx]
  exact congrArg some he.symm
theorem in_free (h : RInv l all) (hm : all.length ≤ 9223372036854775807) {j : Nat} {t : SL} (ht : l[j]? = some t) (hf : t.full = false) :
    ∀ w, RefAt B w bm o v n all → Calls Try.prog 47 #[.pointer (some ⟨bm, o, none⟩), .int .i64 (j : Int)] w (Gives (.int .i64 (-1)) w) :=
  fun w hw => in_miss B bm o v n all j w hw (h.free ht hf) hm

theorem op_put (h : RInv l all) (hn : n = l.length) (hl : l.length ≤ 4096) (h0 : 0 < l.length) (hm : all.length ≤ 1048576) (x : ByteArray) : ∃ (hs hg e : Int) (l' : List SL) (all' : List HV), RInv l' all' ∧ l'.length = l.length ∧ all'.length ≤ all.length + 1 ∧ ((e = 0 ∧ 0 < hg) ∨ (e = 132 ∧ hs = 0 ∧ hg = 0)) ∧
    (∀ w, SlabAt 111 w ps g l → Calls Try.prog 28 #[.pointer (some ⟨ps, 0, none⟩), .string x] w (Turns 111 ps g (.tuple #[.agg #[.int .i64 hs, .int .i64 hg], .int .i64 e]) l' w)) ∧
    (∀ w, RefAt B w bm o v n all → Calls Try.prog 29 #[.pointer (some ⟨bm, o, none⟩), .string x] w fun r w' => r = .returned (.tuple #[.agg #[.int .i64 hs, .int .i64 hg], .int .i64 e]) ∧ RTurn bm o v.ownBlock w w' ∧
      ∃ v', RefAt B w' bm o v' n all' ∧ (v'.ownBlock = v.ownBlock ∨ ∃ k, v'.ownBlock = some k ∧ w.heap.size ≤ k)) := by
  have hm' : all.length ≤ 9223372036854775807 := by omega
  by_cases hr : (l.filter (·.full)).length < l.length
  · obtain ⟨i, s, hs, hf, hb⟩ := first_free l hr
    have hu := h.uses hs
    have hi := (List.getElem?_eq_some_iff.1 hs).1
    have hub : used i all ≤ all.length := List.length_filter_le _ _
    refine ⟨i, s.gen + 1, 0, _, _, h.put hs hf x, List.length_set, by rw [List.length_append, List.length_singleton]; exact Nat.le_refl _, .inl ⟨rfl, by omega⟩, fun w hw => puts_hit ps g i l s x w hw hs hf hb hl (by omega) (by omega), fun w hw => ?_⟩
    have hK := rput_room B bm o v n all x w hw i l.length hn hl hi hm (fun j hj => by
      obtain ⟨t, ht⟩ : ∃ t, l[j]? = some t := ⟨_, List.getElem?_eq_getElem (by omega)⟩
      obtain ⟨r, e, _, _, hC⟩ := in_full (B := B) (bm := bm) (o := o) (v := v) (n := n) h hm' ht (hb j t hj ht)
      exact ⟨r, hC⟩) (in_free h hm' hs hf)
    have e1 : (1 : Int) + (used i all : Nat) = s.gen + 1 := by omega
    rw [e1] at hK
    rw [← e1]
    rw [e1]
    exact hK
  · have hfull := all_full l hr
    refine ⟨0, 0, 132, l, all, h, rfl, Nat.le_succ _, .inr ⟨rfl, rfl, rfl⟩, fun w hw => Calls.turns hw (puts_full ps g l x w hw hfull hl h0), fun w hw => ?_⟩
    refine (rput_full B bm o v n all x w hw l.length hn hl (fun j hj => by
      obtain ⟨t, ht⟩ : ∃ t, l[j]? = some t := ⟨_, List.getElem?_eq_getElem hj⟩
      obtain ⟨r, e, _, _, hC⟩ := in_full (B := B) (bm := bm) (o := o) (v := v) (n := n) h hm' ht (hfull j t ht)
      exact ⟨r, hC⟩)).mono fun r w' ⟨hr, y, hy⟩ => ⟨hr, hy ▸ RTurn.of_grown (below_grown y.h) hw.lm hw.one, v, hy ▸ hw.below y.h, .inl rfl⟩

theorem op_list (h : RInv l all) (hn : n = l.length) (hl : l.length ≤ 4096) (hm : all.length ≤ 9223372036854775807) (w : World) (hw : RefAt B w bm o v n all) :
    Calls Try.prog 23 #[.pointer (some ⟨bm, o, none⟩)] w fun r w' => ∃ v', r = .returned v' ∧ Below w.heap.size w w' ∧ w'.ownsRow w.heap.size 82 4 v' (l.filterMap heldOf).length (hvs (l.filterMap heldOf)) := by
  have := rlist_ok B bm o v n all w hw l.length hn hl (fun j => (l[j]?).bind heldOf) (fun j hj => by
    obtain ⟨t, ht⟩ : ∃ t, l[j]? = some t := ⟨_, List.getElem?_eq_getElem hj⟩
    cases hf : t.full with
    | true =>
      obtain ⟨r, e, hr, he, hC⟩ := in_full (B := B) (bm := bm) (o := o) (v := v) (n := n) h hm ht hf
      exact .inl ⟨r, e, hr, by rw [ht]; exact he, hC⟩
    | false =>
      refine .inr ⟨?_, in_free h hm ht hf⟩
      rw [ht]
      show heldOf t = none
      unfold heldOf
      rw [hf]; rfl)
  rw [held_range] at this
  exact this
end
end Go.Proofs.Ytpnegofmebfcgaa
