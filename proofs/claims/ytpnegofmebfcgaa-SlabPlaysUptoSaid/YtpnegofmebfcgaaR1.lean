/- A slab and the reference's list of all that was put, with no program in sight. -/
import Derived.Test.YtpnegofmebfcgaaUA
import Derived.Test.YtpnegofmebfcgaaUH
import Derived.Test.YtpnegofmebfcgaaG1
namespace Go.Proofs.Ytpnegofmebfcgaa
open Go.RowKit
set_option linter.unusedVariables false

structure RInv (l : List SL) (all : List HV) : Prop where
  slot : ∀ (j : Nat) (t : SL), l[j]? = some t → t.gen = used j all ∧ (∃ b : ByteArray, t.x = .string b) ∧ (t.full = true → t.slot = j ∧ ∃ (i : Nat) (e : HV), all[i]? = some e ∧ e.s = j ∧ e.g = t.gen ∧ e.gone = false)
  at_ : ∀ (i : Nat) (e : HV), all[i]? = some e → ∃ (j : Nat) (t : SL), e.s = j ∧ l[j]? = some t ∧ 1 ≤ e.g ∧ e.g ≤ t.gen ∧ (e.gone = false → t.full = true ∧ e.g = t.gen ∧ t.x = .string e.x)
  uniq : ∀ (i i' : Nat) (e e' : HV), all[i]? = some e → all[i']? = some e' → e.s = e'.s → e.g = e'.g → i = i'

theorem RInv.start (S : Nat) : RInv (List.replicate S ⟨0, 0, false, .string .empty⟩) [] where
  slot := fun j t h => by
    rw [List.getElem?_replicate] at h
    split at h
    · cases h; exact ⟨rfl, ⟨_, rfl⟩, fun h => by cases h⟩
    · cases h
  at_ := fun i e h => by simp at h
  uniq := fun i i' e e' h => by simp at h

theorem used_app (j : Nat) (all : List HV) (e : HV) : used j (all ++ [e]) = used j all + (if e.s == (j : Int) then 1 else 0) := by
  unfold used
  rw [List.filter_append, List.length_append]
  cases he : e.s == (j : Int) <;> simp [he]
theorem used_set (j : Nat) : ∀ (all : List HV) (i : Nat) (e f : HV), all[i]? = some e → f.s = e.s → used j (all.set i f) = used j all
  | [], i, e, f, h, hs => by simp at h
  | a :: r, 0, e, f, h, hs => by
    simp at h; subst h
    unfold used
    rw [List.set_cons_zero, List.filter_cons, List.filter_cons, hs]
    split <;> rfl
  | a :: r, i + 1, e, f, h, hs => by
    have := used_set j r i e f (by simpa using h) hs
    unfold used at this ⊢
    rw [List.set_cons_succ, List.filter_cons, List.filter_cons]
    split <;> simp [this]

section
variable {l : List SL} {all : List HV}
/-- a slot in which something lies: its entry, and none ahead of it that lies there -/
theorem RInv.live (h : RInv l all) {j : Nat} {t : SL} (ht : l[j]? = some t) (hf : t.full = true) : ∃ (i : Nat) (e : HV), all[i]? = some e ∧ e = ⟨j, t.gen, e.x, false⟩ ∧ t.slot = j ∧ t.x = .string e.x ∧
    (∀ (k : Nat) (u : HV), k < i → all[k]? = some u → u.s = j → u.gone = true) := by
  obtain ⟨_, _, hfull⟩ := h.slot j t ht
  obtain ⟨hsl, i, e, hi, es, eg, ego⟩ := hfull hf
  obtain ⟨j', t', e1, ht', _, _, hx⟩ := h.at_ i e hi
  obtain rfl : j = j' := by omega
  rw [ht] at ht'; cases ht'
  refine ⟨i, e, hi, ?_, hsl, (hx ego).2.2, fun k u hk hu hus => ?_⟩
  · cases e; simp only at es eg ego; subst es eg ego; rfl
  · cases hg : u.gone with
    | true => rfl
    | false =>
      exfalso
      obtain ⟨j'', t'', e2, ht'', _, _, hx2⟩ := h.at_ k u hu
      obtain rfl : j = j'' := by omega
      rw [ht] at ht''; cases ht''
      have := h.uniq k i u e hu hi (by rw [hus, es]) (by rw [(hx2 hg).2.1, eg])
      omega
theorem RInv.free (h : RInv l all) {j : Nat} {t : SL} (ht : l[j]? = some t) (hf : t.full = false) : ∀ (k : Nat) (u : HV), all[k]? = some u → u.s = j → u.gone = true := by
  intro k u hu hus
  cases hg : u.gone with
  | true => rfl
  | false =>
    exfalso
    obtain ⟨j', t', e1, ht', _, _, hx⟩ := h.at_ k u hu
    obtain rfl : j = j' := by omega
    rw [ht] at ht'; cases ht'
    have := (hx hg).1
    rw [hf] at this; cases this
theorem RInv.uses (h : RInv l all) {j : Nat} {t : SL} (ht : l[j]? = some t) : t.gen = used j all := (h.slot j t ht).1
theorem RInv.strs (h : RInv l all) : ∀ s ∈ l, ∃ b : ByteArray, s.x = .string b := fun s hs => by
  obtain ⟨j, hj⟩ := List.mem_iff_getElem?.1 hs
  exact (h.slot j s hj).2.1

theorem RInv.put (h : RInv l all) {i : Nat} {s : SL} (hs : l[i]? = some s) (hf : s.full = false) (x : ByteArray) :
    RInv (l.set i ⟨i, s.gen + 1, true, .string x⟩) (all ++ [⟨i, 1 + used i all, x, false⟩]) where
  slot := fun j t ht => by
    have hi : i < l.length := (List.getElem?_eq_some_iff.1 hs).1
    rw [used_app]
    by_cases e : i = j
    · subst e
      rw [List.getElem?_set, if_pos rfl, if_pos hi] at ht; cases ht
      have hu := h.uses hs
      refine ⟨by simp [hu], ⟨x, rfl⟩, fun _ => ⟨rfl, all.length, _, by rw [List.getElem?_append_right (Nat.le_refl _), Nat.sub_self]; rfl, rfl, by simp only; omega, rfl⟩⟩
    · rw [List.getElem?_set, if_neg e] at ht
      obtain ⟨h1, h2, h3⟩ := h.slot j t ht
      have hne : ((i : Int) == (j : Int)) = false := by simp only [beq_eq_false_iff_ne]; omega
      refine ⟨by simp [hne, h1], h2, fun hf => ?_⟩
      obtain ⟨h4, k, u, hu, hr⟩ := h3 hf
      exact ⟨h4, k, u, by rw [List.getElem?_append_left (List.getElem?_eq_some_iff.1 hu).1]; exact hu, hr⟩
  at_ := fun k e he => by
    have hi : i < l.length := (List.getElem?_eq_some_iff.1 hs).1
    by_cases hk : k < all.length
    · rw [List.getElem?_append_left hk] at he
      obtain ⟨j, t, e1, ht, g1, g2, hx⟩ := h.at_ k e he
      by_cases e2 : i = j
      · subst e2
        rw [hs] at ht; cases ht
        refine ⟨i, _, e1, by rw [List.getElem?_set, if_pos rfl, if_pos hi], g1, by show e.g ≤ s.gen + 1; omega, fun hg => ?_⟩
        have := (hx hg).1
        rw [hf] at this; cases this
      · exact ⟨j, t, e1, by rw [List.getElem?_set, if_neg e2]; exact ht, g1, g2, hx⟩
    · have hk2 : k = all.length := by
        have := (List.getElem?_eq_some_iff.1 he).1
        rw [List.length_append, List.length_singleton] at this; omega
      subst hk2
      rw [List.getElem?_append_right (Nat.le_refl _), Nat.sub_self] at he
      cases he
      have hu := h.uses hs
      exact ⟨i, _, rfl, by rw [List.getElem?_set, if_pos rfl, if_pos hi], by simp only; omega, by simp only; omega, fun _ => ⟨rfl, by simp only; omega, rfl⟩⟩
  uniq := fun k k' e e' he he' h1 h2 => by
    have hnew : ∀ (q : Nat) (u : HV), all[q]? = some u → u.s = (i : Int) → u.g = 1 + (used i all : Nat) → False := fun q u hu a b => by
      obtain ⟨j, t, e1, ht, g1, g2, _⟩ := h.at_ q u hu
      obtain rfl : i = j := by omega
      rw [hs] at ht; cases ht
      have := h.uses hs
      omega
    have hl : ∀ (q : Nat) (u : HV), (all ++ [⟨(i : Int), 1 + (used i all : Nat), x, false⟩])[q]? = some u → (q < all.length ∧ all[q]? = some u) ∨ (q = all.length ∧ u = ⟨i, 1 + (used i all : Nat), x, false⟩) := fun q u hu => by
      by_cases hq : q < all.length
      · rw [List.getElem?_append_left hq] at hu; exact .inl ⟨hq, hu⟩
      · have hq2 : q = all.length := by
          have := (List.getElem?_eq_some_iff.1 hu).1
          rw [List.length_append, List.length_singleton] at this; omega
        subst hq2
        rw [List.getElem?_append_right (Nat.le_refl _), Nat.sub_self] at hu
        cases hu
        exact .inr ⟨rfl, rfl⟩
    rcases hl k e he with ⟨a1, a2⟩ | ⟨a1, rfl⟩ <;> rcases hl k' e' he' with ⟨b1, b2⟩ | ⟨b1, rfl⟩
    · exact h.uniq k k' e e' a2 b2 h1 h2
    · exact (hnew k e a2 h1 h2).elim
    · exact (hnew k' e' b2 h1.symm h2.symm).elim
    · omega

theorem uniq_set (h : RInv l all) {k : Nat} {e f : HV} (he : all[k]? = some e) (hs : f.s = e.s) (hg : f.g = e.g) :
    ∀ (i i' : Nat) (a a' : HV), (all.set k f)[i]? = some a → (all.set k f)[i']? = some a' → a.s = a'.s → a.g = a'.g → i = i' := by
  have hk : k < all.length := (List.getElem?_eq_some_iff.1 he).1
  have key : ∀ (i : Nat) (a : HV), (all.set k f)[i]? = some a → ∃ b, all[i]? = some b ∧ b.s = a.s ∧ b.g = a.g := fun i a ha => by
    rw [List.getElem?_set] at ha
    by_cases e1 : k = i
    · subst e1
      rw [if_pos rfl, if_pos hk] at ha; cases ha
      exact ⟨e, he, hs.symm, hg.symm⟩
    · rw [if_neg e1] at ha; exact ⟨a, ha, rfl, rfl⟩
  intro i i' a a' ha ha' h1 h2
  obtain ⟨b, hb, s1, g1⟩ := key i a ha
  obtain ⟨b', hb', s2, g2⟩ := key i' a' ha'
  exact h.uniq i i' b b' hb hb' (by rw [s1, s2, h1]) (by rw [g1, g2, h2])
theorem RInv.set (h : RInv l all) {k : Nat} {e : HV} (he : all[k]? = some e) (hgo : e.gone = false) {j : Nat} {t : SL} (hj : e.s = j) (ht : l[j]? = some t) (x : ByteArray) :
    RInv (l.set j { t with x := .string x }) (all.set k { e with x := x }) where
  slot := fun i u hu => by
    have hjl : j < l.length := (List.getElem?_eq_some_iff.1 ht).1
    have hkl : k < all.length := (List.getElem?_eq_some_iff.1 he).1
    have hent : ∀ (q : Nat) (v : HV), all[q]? = some v → ∃ v', (all.set k { e with x := x })[q]? = some v' ∧ v'.s = v.s ∧ v'.g = v.g ∧ v'.gone = v.gone := fun q v hv => by
      by_cases e1 : k = q
      · subst e1
        rw [he] at hv; cases hv
        exact ⟨{ e with x := x }, by rw [List.getElem?_set, if_pos rfl, if_pos hkl], rfl, rfl, rfl⟩
      · exact ⟨v, by rw [List.getElem?_set, if_neg e1]; exact hv, rfl, rfl, rfl⟩
    rw [used_set i all k e { e with x := x } he rfl]
    by_cases e2 : j = i
    · subst e2
      rw [List.getElem?_set, if_pos rfl, if_pos hjl] at hu; cases hu
      obtain ⟨h1, h2, h3⟩ := h.slot j t ht
      refine ⟨h1, ⟨x, rfl⟩, fun hf => ?_⟩
      obtain ⟨h4, q, v, hv, a, b, c⟩ := h3 hf
      obtain ⟨v', hv', a', b', c'⟩ := hent q v hv
      exact ⟨h4, q, v', hv', a'.trans a, b'.trans b, c'.trans c⟩
    · rw [List.getElem?_set, if_neg e2] at hu
      obtain ⟨h1, h2, h3⟩ := h.slot i u hu
      refine ⟨h1, h2, fun hf => ?_⟩
      obtain ⟨h4, q, v, hv, a, b, c⟩ := h3 hf
      obtain ⟨v', hv', a', b', c'⟩ := hent q v hv
      exact ⟨h4, q, v', hv', a'.trans a, b'.trans b, c'.trans c⟩
  at_ := fun i u hu => by
    have hjl : j < l.length := (List.getElem?_eq_some_iff.1 ht).1
    have hkl : k < all.length := (List.getElem?_eq_some_iff.1 he).1
    by_cases e1 : k = i
    · subst e1
      rw [List.getElem?_set, if_pos rfl, if_pos hkl] at hu; cases hu
      obtain ⟨j', t', a1, a2, a3, a4, a5⟩ := h.at_ k e he
      obtain rfl : j = j' := by omega
      rw [ht] at a2; cases a2
      exact ⟨j, { t with x := .string x }, hj, by rw [List.getElem?_set, if_pos rfl, if_pos hjl], a3, a4, fun hg => ⟨(a5 hg).1, (a5 hg).2.1, rfl⟩⟩
    · rw [List.getElem?_set, if_neg e1] at hu
      obtain ⟨j', t', a1, a2, a3, a4, a5⟩ := h.at_ i u hu
      by_cases e2 : j = j'
      · subst e2
        rw [ht] at a2; cases a2
        refine ⟨j, { t with x := .string x }, a1, by rw [List.getElem?_set, if_pos rfl, if_pos hjl], a3, a4, fun hg => ?_⟩
        exfalso
        obtain ⟨j'', t'', b1, b2, b3, b4, b5⟩ := h.at_ k e he
        obtain rfl : j = j'' := by omega
        rw [ht] at b2; cases b2
        exact e1 (h.uniq k i e u he hu (by rw [hj, a1]) (by rw [(b5 hgo).2.1, (a5 hg).2.1]))
      · exact ⟨j', t', a1, by rw [List.getElem?_set, if_neg e2]; exact a2, a3, a4, a5⟩
  uniq := uniq_set h he rfl rfl
theorem RInv.drop (h : RInv l all) {k : Nat} {e : HV} (he : all[k]? = some e) (hgo : e.gone = false) {j : Nat} {t : SL} (hj : e.s = j) (ht : l[j]? = some t) :
    RInv (l.set j { t with full := false, x := .string .empty }) (all.set k { e with gone := true }) where
  slot := fun i u hu => by
    have hjl : j < l.length := (List.getElem?_eq_some_iff.1 ht).1
    rw [used_set i all k e { e with gone := true } he rfl]
    by_cases e2 : j = i
    · subst e2
      rw [List.getElem?_set, if_pos rfl, if_pos hjl] at hu; cases hu
      obtain ⟨h1, h2, h3⟩ := h.slot j t ht
      exact ⟨h1, ⟨_, rfl⟩, fun hf => by cases hf⟩
    · rw [List.getElem?_set, if_neg e2] at hu
      obtain ⟨h1, h2, h3⟩ := h.slot i u hu
      refine ⟨h1, h2, fun hf => ?_⟩
      obtain ⟨h4, q, v, hv, a, b, c⟩ := h3 hf
      have hq : k ≠ q := fun e3 => by subst e3; rw [he] at hv; cases hv; omega
      exact ⟨h4, q, v, by rw [List.getElem?_set, if_neg hq]; exact hv, a, b, c⟩
  at_ := fun i u hu => by
    have hjl : j < l.length := (List.getElem?_eq_some_iff.1 ht).1
    have hkl : k < all.length := (List.getElem?_eq_some_iff.1 he).1
    by_cases e1 : k = i
    · subst e1
      rw [List.getElem?_set, if_pos rfl, if_pos hkl] at hu; cases hu
      obtain ⟨j', t', a1, a2, a3, a4, a5⟩ := h.at_ k e he
      obtain rfl : j = j' := by omega
      rw [ht] at a2; cases a2
      exact ⟨j, { t with full := false, x := .string .empty }, hj, by rw [List.getElem?_set, if_pos rfl, if_pos hjl], a3, a4, fun hg => by cases hg⟩
    · rw [List.getElem?_set, if_neg e1] at hu
      obtain ⟨j', t', a1, a2, a3, a4, a5⟩ := h.at_ i u hu
      by_cases e2 : j = j'
      · subst e2
        rw [ht] at a2; cases a2
        refine ⟨j, { t with full := false, x := .string .empty }, a1, by rw [List.getElem?_set, if_pos rfl, if_pos hjl], a3, a4, fun hg => ?_⟩
        exfalso
        obtain ⟨j'', t'', b1, b2, b3, b4, b5⟩ := h.at_ k e he
        obtain rfl : j = j'' := by omega
        rw [ht] at b2; cases b2
        exact e1 (h.uniq k i e u he hu (by rw [hj, a1]) (by rw [(b5 hgo).2.1, (a5 hg).2.1]))
      · exact ⟨j', t', a1, by rw [List.getElem?_set, if_neg e2]; exact a2, a3, a4, a5⟩
  uniq := uniq_set h he rfl rfl

/-- a handle: the place of what it stands for, in the list and in the slab; or nothing -/
theorem RInv.find (h : RInv l all) (hs hg : Int) :
    (∃ (i : Nat) (e : HV) (j : Nat) (t : SL), all[i]? = some e ∧ e.s = hs ∧ e.g = hg ∧ e.gone = false ∧ hs = j ∧ l[j]? = some t ∧ t.full = true ∧ t.slot = j ∧ t.gen = hg ∧ t.x = .string e.x ∧
      (∀ (k : Nat) (u : HV), k < i → all[k]? = some u → u.s = hs → u.g = hg → u.gone = true)) ∨
    ((∀ (k : Nat) (u : HV), all[k]? = some u → u.s = hs → u.g = hg → u.gone = true) ∧
      ∀ (j : Nat) (t : SL), hs = j → l[j]? = some t → t.full = true → ¬ t.gen = hg) := by
  by_cases hx : ∃ (i : Nat) (e : HV), all[i]? = some e ∧ e.s = hs ∧ e.g = hg ∧ e.gone = false
  · obtain ⟨i, e, hi, es, eg, ego⟩ := hx
    obtain ⟨j, t, a1, a2, a3, a4, a5⟩ := h.at_ i e hi
    obtain ⟨b1, b2, b3⟩ := a5 ego
    refine .inl ⟨i, e, j, t, hi, es, eg, ego, by rw [← es]; exact a1, a2, b1, ((h.slot j t a2).2.2 b1).1, by rw [← b2, eg], b3, fun k u hk hu us ug => ?_⟩
    have := h.uniq k i u e hu hi (by rw [us, es]) (by rw [ug, eg])
    omega
  · refine .inr ⟨fun k u hu us ug => ?_, fun j t hj ht hf hgen => ?_⟩
    · cases hgo : u.gone with
      | true => rfl
      | false => exact (hx ⟨k, u, hu, us, ug, hgo⟩).elim
    · obtain ⟨_, i, e, hi, es, eg, ego⟩ := (h.slot j t ht).2.2 hf
      exact hx ⟨i, e, hi, by rw [es, hj], by rw [eg, hgen], ego⟩
end

/-- what the list of a slab is -/
def heldOf (t : SL) : Option HV := if t.full then some ⟨t.slot, t.gen, match t.x with | .string b => b | _ => .empty, false⟩ else none
theorem held_range (f : SL → Option HV) : ∀ l : List SL, (List.range l.length).filterMap (fun j => (l[j]?).bind f) = l.filterMap f
  | [] => rfl
  | s :: r => by
    rw [List.length_cons, List.range_succ_eq_map, List.filterMap_cons, List.filterMap_map]
    have := held_range f r
    have e : (List.range r.length).filterMap ((fun j => ((s :: r)[j]?).bind f) ∘ Nat.succ) = r.filterMap f := by
      rw [← this]; rfl
    rw [e]
    have e0 : ((s :: r)[0]?).bind f = f s := rfl
    rw [e0, List.filterMap_cons]
theorem held_likes : ∀ l : List SL, (∀ s ∈ l, ∃ b : ByteArray, s.x = .string b) → Likes (l.filter (·.full)) (l.filterMap heldOf) ∧ (l.filterMap heldOf).length = (l.filter (·.full)).length
  | [], _ => ⟨fun i s e hs => by simp at hs, rfl⟩
  | s :: r, h => by
    obtain ⟨h1, h2⟩ := held_likes r (fun t ht => h t (List.mem_cons_of_mem _ ht))
    obtain ⟨b, hb⟩ := h s (List.mem_cons_self ..)
    cases hf : s.full with
    | false =>
      have e1 : heldOf s = none := by unfold heldOf; rw [hf]; rfl
      rw [List.filterMap_cons, e1, List.filter_cons, if_neg (by rw [hf]; decide)]
      exact ⟨h1, h2⟩
    | true =>
      have e1 : heldOf s = some ⟨s.slot, s.gen, b, false⟩ := by unfold heldOf; rw [hf, hb]; rfl
      rw [List.filterMap_cons, e1, List.filter_cons, if_pos hf]
      refine ⟨fun i u e hu he => ?_, by simp [h2]⟩
      match i with
      | 0 => simp at hu he; subst hu he; exact ⟨rfl, rfl, hb⟩
      | i + 1 => exact h1 i u e (by simpa using hu) (by simpa using he)
end Go.Proofs.Ytpnegofmebfcgaa
