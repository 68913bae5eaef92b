/- Slab: Put on both sides, told that nothing is gone. -/
import Derived.Test.YtpnegofmebfcgaaV4
namespace Go.Proofs.Ytpnegofmebfcgaa
open Go.RowKit Go.Shelf
set_option linter.unusedVariables false

def Alive (all : List HV) : Prop := ∀ x ∈ all, x.gone = false
/-- nothing gone: no more things than slots -/
theorem alive_len {l : List SL} {all : List HV} (h : RInv l all) (ha : Alive all) : all.length ≤ l.length := by
  have key : ∀ i, i < all.length → ∃ j, j < l.length ∧ ∃ e, all[i]? = some e ∧ e.s = (j : Int) := fun i hi => by
    obtain ⟨j, t, e1, ht, _⟩ := h.at_ i _ (List.getElem?_eq_getElem hi)
    exact ⟨j, (List.getElem?_eq_some_iff.1 ht).1, _, List.getElem?_eq_getElem hi, e1⟩
  obtain ⟨f, hf⟩ : ∃ f : Nat → Nat, ∀ i, i < all.length → f i < l.length ∧ ∃ e, all[i]? = some e ∧ e.s = (f i : Int) :=
    ⟨fun i => if h : i < all.length then (key i h).choose else 0, fun i hi => by simp only [dif_pos hi]; exact (key i hi).choose_spec⟩
  have inj : ∀ i i', i < all.length → i' < all.length → f i = f i' → i = i' := fun i i' hi hi' e => by
    obtain ⟨_, x, hx, ex⟩ := hf i hi
    obtain ⟨_, y, hy, ey⟩ := hf i' hi'
    obtain ⟨j, t, a1, a2, a3, a4, a5⟩ := h.at_ i x hx
    obtain ⟨j', t', b1, b2, b3, b4, b5⟩ := h.at_ i' y hy
    have hj : j = j' := by omega
    subst hj
    rw [a2] at b2; cases b2
    refine h.uniq i i' x y hx hy (by omega) ?_
    rw [(a5 (ha x (List.mem_of_getElem? hx))).2.1, (b5 (ha y (List.mem_of_getElem? hy))).2.1]
  have hn : ((List.range all.length).map f).Nodup := by
    rw [List.nodup_iff_pairwise_ne, List.pairwise_map]
    refine List.Pairwise.imp_of_mem ?_ (List.pairwise_lt_range (n := all.length))
    intro a b ha' hb' hlt e
    have := inj a b (List.mem_range.1 ha') (List.mem_range.1 hb') e
    omega
  have hs : ∀ x ∈ (List.range all.length).map f, x ∈ List.range l.length := fun x hx => by
    obtain ⟨i, hi, rfl⟩ := List.mem_map.1 hx
    exact List.mem_range.2 (hf i (List.mem_range.1 hi)).1
  have := hn.length_le_of_subset hs
  simpa using this
section
variable {l : List SL} {all : List HV} {ps g B bm o : Nat} {v : Value} {n : Int}
theorem op_put_alive (h : RInv l all) (hn : n = l.length) (hl : l.length ≤ 4096) (h0 : 0 < l.length) (hm : all.length ≤ 1048576) (x : ByteArray) : ∃ (hs hg e : Int) (l' : List SL) (all' : List HV), RInv l' all' ∧ l'.length = l.length ∧ (Alive all → Alive all') ∧ (e = 0 → all'.length = all.length + 1) ∧ all.length ≤ all'.length ∧ ((e = 0 ∧ 0 < hg) ∨ (e = 132 ∧ hs = 0 ∧ hg = 0)) ∧
    (∀ w, SlabAt 111 w ps g l → Calls Try.prog 28 #[.pointer (some ⟨ps, 0, none⟩), .string x] w (Turns 111 ps g (.tuple #[.agg #[.int .i64 hs, .int .i64 hg], .int .i64 e]) l' w)) ∧
    (∀ w, RefAt B w bm o v n all → Calls Try.prog 29 #[.pointer (some ⟨bm, o, none⟩), .string x] w fun r w' => r = .returned (.tuple #[.agg #[.int .i64 hs, .int .i64 hg], .int .i64 e]) ∧ RTurn bm o v.ownBlock w w' ∧
      ∃ v', RefAt B w' bm o v' n all' ∧ (v'.ownBlock = v.ownBlock ∨ ∃ k, v'.ownBlock = some k ∧ w.heap.size ≤ k)) := by
  have hm' : all.length ≤ 9223372036854775807 := by omega
  by_cases hr : (l.filter (·.full)).length < l.length
  · obtain ⟨i, s, hs, hf, hb⟩ := first_free l hr
    have hu := h.uses hs
    have hi := (List.getElem?_eq_some_iff.1 hs).1
    have hub : used i all ≤ all.length := List.length_filter_le _ _
    refine ⟨i, s.gen + 1, 0, _, _, h.put hs hf x, List.length_set, ?_, fun _ => by rw [List.length_append, List.length_singleton], by rw [List.length_append]; exact Nat.le_add_right _ _, .inl ⟨rfl, by omega⟩, fun w hw => puts_hit ps g i l s x w hw hs hf hb hl (by omega) (by omega), fun w hw => ?_⟩
    · intro ha y hy
      rcases List.mem_append.1 hy with hy | hy
      · exact ha y hy
      · rw [List.mem_singleton] at hy; rw [hy]
    have hK := rput_room B bm o v n all x w hw i l.length hn hl hi hm (fun j hj => by
      obtain ⟨t, ht⟩ : ∃ t, l[j]? = some t := ⟨_, List.getElem?_eq_getElem (by omega)⟩
      obtain ⟨r, e, _, _, hC⟩ := in_full (B := B) (bm := bm) (o := o) (v := v) (n := n) h hm' ht (hb j t hj ht)
      exact ⟨r, hC⟩) (in_free h hm' hs hf)
    have e1 : (1 : Int) + (used i all : Nat) = s.gen + 1 := by omega
    rw [e1] at hK
    rw [← e1]
    rw [e1]
    exact hK
  · have hfull := all_full l hr
    refine ⟨0, 0, 132, l, all, h, rfl, id, (fun e => by cases e), Nat.le_refl _, .inr ⟨rfl, rfl, rfl⟩, fun w hw => Calls.turns hw (puts_full ps g l x w hw hfull hl h0), fun w hw => ?_⟩
    refine (rput_full B bm o v n all x w hw l.length hn hl (fun j hj => by
      obtain ⟨t, ht⟩ : ∃ t, l[j]? = some t := ⟨_, List.getElem?_eq_getElem hj⟩
      obtain ⟨r, e, _, _, hC⟩ := in_full (B := B) (bm := bm) (o := o) (v := v) (n := n) h hm' ht (hfull j t ht)
      exact ⟨r, hC⟩)).mono fun r w' ⟨hr, y, hy⟩ => ⟨hr, hy ▸ RTurn.of_grown (below_grown y.h) hw.lm hw.one, v, hy ▸ hw.below y.h, .inl rfl⟩
end
end Go.Proofs.Ytpnegofmebfcgaa
