/- Trip: Go, the way that turns a trip. -/
import Derived.Test.YtnooghehmgbemaaGreatB9
namespace Go.Proofs.YtnooghehmgbemaaGreat
open Go.RowKit
set_option linter.unusedVariables false
set_option linter.unusedSimpArgs false

open Classical in
/-- trip k comes to state s -/
noncomputable def turn (k : List Value) (s tick : Int) (u : Tr) : Tr := if u.k = k then ⟨u.k, s, u.ts.set s.toNat tick⟩ else u
theorem turn_k (k : List Value) (s tick : Int) (u : Tr) : (turn k s tick u).k = u.k := by unfold turn; split <;> rfl
theorem turn_at {k : List Value} {u : Tr} (h : u.k = k) (s tick : Int) : turn k s tick u = ⟨u.k, s, u.ts.set s.toNat tick⟩ := if_pos h
theorem turn_off {k : List Value} {u : Tr} (h : u.k ≠ k) (s tick : Int) : turn k s tick u = u := if_neg h
theorem pair_uniq {α β : Type} {l : List α} {p : α → Prop} {g : α → β} (h : l.Pairwise fun a b => p a → p b → g a ≠ g b) : ∀ a ∈ l, ∀ b ∈ l, p a → p b → g a = g b → a = b := by
  induction l with
  | nil => intro a ha; cases ha
  | cons x r ih =>
    rw [List.pairwise_cons] at h
    intro a ha b hb pa pb e
    rcases List.mem_cons.1 ha with rfl | ha' <;> rcases List.mem_cons.1 hb with rfl | hb'
    · rfl
    · exact (h.1 b hb' pa pb e).elim
    · exact (h.1 a ha' pb pa e.symm).elim
    · exact ih h.2 a ha' b hb' pa pb e
theorem St.ok.uk {q : St} (h : q.ok) : ∀ a ∈ q.l, ∀ b ∈ q.l, a.k = b.k → a = b := fun a ha b hb e => pair_uniq (p := fun _ => True) (g := Tr.k) (h.dk.imp (fun hab _ _ => hab)) a ha b hb trivial trivial e
theorem St.ok.ur {q : St} (h : q.ok) : ∀ a ∈ q.l, ∀ b ∈ q.l, a.on → b.on → a.rider = b.rider → a = b := pair_uniq h.dr
theorem St.ok.ud {q : St} (h : q.ok) : ∀ a ∈ q.l, ∀ b ∈ q.l, a.on → b.on → a.driver = b.driver → a = b := pair_uniq h.dd
theorem fol_on {was s : Int} (h : fol was s = true) : (was = 1 ∨ was = 2 ∨ was = 3) ∧ (s = 2 ∨ s = 3 ∨ s = 4 ∨ s = 5) := by
  unfold fol at h
  simp only [Bool.or_eq_true, Bool.and_eq_true, beq_iff_eq] at h
  omega
theorem wf64 {x : Int} (h0 : 0 ≤ x) (h1 : x ≤ 1099511627776) : (Lit.int .i64 x).wf = true := by
  unfold Lit.wf; rw [Bool.and_eq_true, decide_eq_true_eq, decide_eq_true_eq]; exact ⟨Int.le_trans (by decide) h0, Int.le_trans h1 (by decide)⟩
section
variable {q : St} {t : Tr} {k : List Value} {s tick : Int}
theorem f1_turn (hq : q.ok) (ht : t ∈ q.l) (hk : t.k = k) : ∀ x v, putF (f1 q.l) (.agg k.toArray) (.agg (turn k s tick t).cells.toArray) x v ↔ f1 (q.l.map (turn k s tick)) x v := by
  intro x v
  constructor
  · rintro (⟨rfl, rfl⟩ | ⟨hx, u, hu, rfl, rfl⟩)
    · exact ⟨_, List.mem_map_of_mem ht, by rw [turn_k, hk], rfl⟩
    · refine ⟨_, List.mem_map_of_mem hu, by rw [turn_k], ?_⟩
      rw [turn_off (fun e => hx (by rw [e]))]
  · rintro ⟨_, hu, rfl, rfl⟩
    obtain ⟨u, hv, rfl⟩ := List.mem_map.1 hu; replace hu := hv; clear hv
    by_cases e : u.k = k
    · have := hq.uk u hu t ht (e.trans hk.symm)
      subst this
      exact .inl ⟨by rw [turn_k, e], rfl⟩
    · refine .inr ⟨fun e' => e (by rw [turn_k] at e'; exact agg_inj.1 e'), u, hu, by rw [turn_k], by rw [turn_off e]⟩
theorem on_turn (hq : q.ok) (ht : t ∈ q.l) (hk : t.k = k) (h : t.on) (hs : s ≠ 4 ∧ s ≠ 5) {u : Tr} (hu : u ∈ q.l) : (turn k s tick u).on ↔ u.on := by
  by_cases e : u.k = k
  · have := hq.uk u hu t ht (e.trans hk.symm)
    subst this
    rw [turn_at e]; exact ⟨fun _ => h, fun _ => hs⟩
  · rw [turn_off e]
theorem turn_rider (u : Tr) : (turn k s tick u).rider = u.rider := by unfold Tr.rider; rw [turn_k]
theorem turn_driver (u : Tr) : (turn k s tick u).driver = u.driver := by unfold Tr.driver; rw [turn_k]
theorem f2_stay (hq : q.ok) (ht : t ∈ q.l) (hk : t.k = k) (h : t.on) (hs : s ≠ 4 ∧ s ≠ 5) : ∀ x v, f2 q.l x v ↔ f2 (q.l.map (turn k s tick)) x v := by
  intro x v
  constructor
  · rintro ⟨u, hu, ho, rfl, rfl⟩
    exact ⟨_, List.mem_map_of_mem hu, (on_turn hq ht hk h hs hu).2 ho, by rw [turn_rider], by rw [turn_k]⟩
  · rintro ⟨_, hu, ho, rfl, rfl⟩
    obtain ⟨u, hv, rfl⟩ := List.mem_map.1 hu; replace hu := hv; clear hv
    exact ⟨u, hu, (on_turn hq ht hk h hs hu).1 ho, by rw [turn_rider], by rw [turn_k]⟩
theorem f3_stay (hq : q.ok) (ht : t ∈ q.l) (hk : t.k = k) (h : t.on) (hs : s ≠ 4 ∧ s ≠ 5) : ∀ x v, f3 q.l x v ↔ f3 (q.l.map (turn k s tick)) x v := by
  intro x v
  constructor
  · rintro ⟨u, hu, ho, rfl, rfl⟩
    exact ⟨_, List.mem_map_of_mem hu, (on_turn hq ht hk h hs hu).2 ho, by rw [turn_driver], by rw [turn_k]⟩
  · rintro ⟨_, hu, ho, rfl, rfl⟩
    obtain ⟨u, hv, rfl⟩ := List.mem_map.1 hu; replace hu := hv; clear hv
    exact ⟨u, hu, (on_turn hq ht hk h hs hu).1 ho, by rw [turn_driver], by rw [turn_k]⟩
theorem f2_free (hq : q.ok) (ht : t ∈ q.l) (hk : t.k = k) (h : t.on) (hs : s = 4 ∨ s = 5) : ∀ x v, delF (f2 q.l) (.agg (k.take 8).toArray) x v ↔ f2 (q.l.map (turn k s tick)) x v := by
  intro x v
  constructor
  · rintro ⟨hx, u, hu, ho, rfl, rfl⟩
    have e : u.k ≠ k := fun e => hx (by rw [Tr.rider, e])
    exact ⟨_, List.mem_map_of_mem hu, by rw [turn_off e]; exact ho, by rw [turn_rider], by rw [turn_k]⟩
  · rintro ⟨_, hu, ho, rfl, rfl⟩
    obtain ⟨u, hv, rfl⟩ := List.mem_map.1 hu; replace hu := hv; clear hv
    have e : u.k ≠ k := fun e => by rw [turn_at e] at ho; exact hs.elim ho.1 ho.2
    rw [turn_off e] at ho ⊢
    refine ⟨fun e' => ?_, u, hu, ho, rfl, rfl⟩
    have := hq.ur u hu t ht ho h ((agg_inj.1 e').trans (by rw [Tr.rider, hk]))
    exact e (by rw [this, hk])
theorem f3_free (hq : q.ok) (ht : t ∈ q.l) (hk : t.k = k) (h : t.on) (hs : s = 4 ∨ s = 5) : ∀ x v, delF (f3 q.l) (.agg (k.drop 8).toArray) x v ↔ f3 (q.l.map (turn k s tick)) x v := by
  intro x v
  constructor
  · rintro ⟨hx, u, hu, ho, rfl, rfl⟩
    have e : u.k ≠ k := fun e => hx (by rw [Tr.driver, e])
    exact ⟨_, List.mem_map_of_mem hu, by rw [turn_off e]; exact ho, by rw [turn_driver], by rw [turn_k]⟩
  · rintro ⟨_, hu, ho, rfl, rfl⟩
    obtain ⟨u, hv, rfl⟩ := List.mem_map.1 hu; replace hu := hv; clear hv
    have e : u.k ≠ k := fun e => by rw [turn_at e] at ho; exact hs.elim ho.1 ho.2
    rw [turn_off e] at ho ⊢
    refine ⟨fun e' => ?_, u, hu, ho, rfl, rfl⟩
    have := hq.ud u hu t ht ho h ((agg_inj.1 e').trans (by rw [Tr.driver, hk]))
    exact e (by rw [this, hk])
theorem map_turn_k (l : List Tr) : (l.map (turn k s tick)).map Tr.k = l.map Tr.k := by
  rw [List.map_map]; exact List.map_congr_left (fun u _ => turn_k k s tick u)
theorem St.ok.turn (hq : q.ok) (ht : t ∈ q.l) (hk : t.k = k) (h : t.on) (hs : (Lit.int .u8 s).wf = true) (hc : q.clock ≤ tick) (h0 : 0 ≤ tick) (h1 : tick ≤ 1099511627776) : St.ok ⟨tick, q.l.map (Go.Proofs.YtnooghehmgbemaaGreat.turn k s tick)⟩ where
  c0 := h0
  c1 := h1
  ok := fun u hu => by
    obtain ⟨v, hv, rfl⟩ := List.mem_map.1 hu
    have hv' := hq.ok v hv
    by_cases e : v.k = k
    · rw [turn_at e]
      refine ⟨hv'.k, hs, by simp [hv'.n], fun x hx => ?_⟩
      rcases List.mem_or_eq_of_mem_set hx with h' | rfl
      · exact hv'.ts x h'
      · exact wf64 h0 h1
    · rw [turn_off e]; exact hv'
  dk := by
    rw [List.pairwise_map]
    exact hq.dk.imp (fun hab => by rw [turn_k, turn_k]; exact hab)
  dr := by
    rw [List.pairwise_map]
    refine List.Pairwise.imp_of_mem (fun ha hb hab oa ob => ?_) hq.dr
    rw [turn_rider, turn_rider]
    refine hab ?_ ?_
    · rename_i a b
      by_cases e : a.k = k
      · rw [hq.uk a ha t ht (e.trans hk.symm)]; exact h
      · rw [turn_off e] at oa; exact oa
    · rename_i a b
      by_cases e : b.k = k
      · rw [hq.uk b hb t ht (e.trans hk.symm)]; exact h
      · rw [turn_off e] at ob; exact ob
  dd := by
    rw [List.pairwise_map]
    refine List.Pairwise.imp_of_mem (fun ha hb hab oa ob => ?_) hq.dd
    rw [turn_driver, turn_driver]
    refine hab ?_ ?_
    · rename_i a b
      by_cases e : a.k = k
      · rw [hq.uk a ha t ht (e.trans hk.symm)]; exact h
      · rw [turn_off e] at oa; exact oa
    · rename_i a b
      by_cases e : b.k = k
      · rw [hq.uk b hb t ht (e.trans hk.symm)]; exact h
      · rw [turn_off e] at ob; exact ob
theorem cells_s (hto : t.ok) (s : Int) : t.cells.toArray.setIfInBounds 16 (Value.int .u8 s) = (t.k ++ Value.int .u8 s :: t.ts.map (Value.int .i64)).toArray := by
  rw [List.setIfInBounds_toArray, Tr.cells, List.set_append_right _ _ (by rw [hto.k.1]; omega), hto.k.1]; rfl
theorem cells_t (hto : t.ok) (s : Int) (n : Nat) (tick : Int) : (t.k ++ Value.int .u8 s :: t.ts.map (Value.int .i64)).toArray.setIfInBounds (17 + n) (Value.int .i64 tick) = (Tr.cells ⟨t.k, s, t.ts.set n tick⟩).toArray := by
  rw [List.setIfInBounds_toArray, Tr.cells, List.set_append_right _ _ (by rw [hto.k.1]; omega), hto.k.1, show 17 + n - 16 = n + 1 by omega, List.set_cons_succ, List.map_set]
end
end Go.Proofs.YtnooghehmgbemaaGreat
