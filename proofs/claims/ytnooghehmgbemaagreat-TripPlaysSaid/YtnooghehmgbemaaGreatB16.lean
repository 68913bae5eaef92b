/- Trip: one list of trips among blocks that stay; a trip's states, reckoned. -/
import Derived.Test.YtnooghehmgbemaaGreatB15
namespace Go.Proofs.YtnooghehmgbemaaGreat
open Go.RowKit
set_option linter.unusedVariables false
set_option linter.unusedSimpArgs false

/-- below B all lies as in w0; the trips at tb are q; the blocks bs hold what they hold and are no trips' -/
def Sit (B : Nat) (w0 : World) (tb : Nat) (q : St) (bs : List (Nat × Obj)) (u : World) : Prop :=
  Below B w0 u ∧ B ≤ w0.heap.size ∧ (∀ p ∈ bs, u.heap[p.1]? = some p.2) ∧ ∃ F : Nat → Prop, TripsAt F u tb q ∧ (∀ j, F j → B ≤ j) ∧ ∀ p ∈ bs, ¬ F p.1
section
variable {B tb : Nat} {w0 u v : World} {q : St} {bs : List (Nat × Obj)}
theorem Sit.below (s : Sit B w0 tb q bs u) : Below B w0 u := s.1
theorem Sit.at (s : Sit B w0 tb q bs u) {b : Nat} {o : Obj} (h : (b, o) ∈ bs) : u.heap[b]? = some o := s.2.2.1 _ h
theorem Sit.size (s : Sit B w0 tb q bs u) : B ≤ u.heap.size := Nat.le_trans s.2.1 s.1.size
theorem Sit.lt (s : Sit B w0 tb q bs u) {b : Nat} {o : Obj} (h : (b, o) ∈ bs) : b < u.heap.size := (Array.getElem?_eq_some_iff.1 (s.at h)).1
theorem Sit.ok (s : Sit B w0 tb q bs u) : q.ok := s.2.2.2.choose_spec.1.2.1
theorem Sit.sub (s : Sit B w0 tb q bs u) {cs : List (Nat × Obj)} (h : ∀ p ∈ cs, p ∈ bs) : Sit B w0 tb q cs u := by
  obtain ⟨h1, h2, h3, F, h4, h5, h6⟩ := s
  exact ⟨h1, h2, fun p hp => h3 p (h p hp), F, h4, h5, fun p hp => h6 p (h p hp)⟩
theorem Sit.up (s : Sit B w0 tb q bs u) (h : Below u.heap.size u v) : Sit B w0 tb q bs v := by
  have hs := s.size
  obtain ⟨h1, h2, h3, F, h4, h5, h6⟩ := s
  refine ⟨h1.trans (h.mono hs), h2, fun p hp => ?_, F, h4.of_lies (X := fun _ => False) (Lies.of_below h) (fun _ _ => id), h5, h6⟩
  have := h3 p hp
  exact (h.block _ (Array.getElem?_eq_some_iff.1 this).1).trans this
theorem Sit.drew (s : Sit B w0 tb q bs u) : Sit B w0 tb q bs u.drew := s.up ((Below.refl _ u).drew)
/-- a new block -/
theorem Sit.add (s : Sit B w0 tb q bs u) (h : Below u.heap.size u v) {b : Nat} {o : Obj} (hb : u.heap.size ≤ b) (ho : v.heap[b]? = some o) : Sit B w0 tb q ((b, o) :: bs) v := by
  have hs := s.size
  obtain ⟨h1, h2, h3, F, h4, h5, h6⟩ := s
  refine ⟨h1.trans (h.mono hs), h2, fun p hp => ?_, F, h4.of_lies (X := fun _ => False) (Lies.of_below h) (fun _ _ => id), h5, fun p hp => ?_⟩
  · rcases List.mem_cons.1 hp with rfl | hp
    · exact ho
    · have := h3 p hp
      exact (h.block _ (Array.getElem?_eq_some_iff.1 this).1).trans this
  · rcases List.mem_cons.1 hp with rfl | hp
    · intro e; have := h4.1 _ e; omega
    · exact h6 p hp
theorem Sit.alloc (s : Sit B w0 tb q bs u) (o : Obj) : Sit B w0 tb q ((u.heap.size, o) :: bs) (u.alloc o) :=
  s.add ((Below.refl _ u).alloc (Nat.le_refl _) _) (Nat.le_refl _) (heap_last u o)
/-- a variable made and filled -/
theorem Sit.box (s : Sit B w0 tb q bs u) (z cs : Array Value) (t : TypeId) : Sit B w0 tb q ((u.heap.size, .cells cs t (0, 0)) :: bs) ((u.alloc (.cells z t)).setRow u.heap.size cs) :=
  s.add (Below.setRow ((Below.refl _ u).alloc (Nat.le_refl _) _) (Nat.le_refl _) _) (Nat.le_refl _) (setRow_heap _ _ _ _ _ _ (heap_last u _))
/-- a variable filled anew -/
theorem Sit.refill (s : Sit B w0 tb q bs u) {b : Nat} {cs : Array Value} {t : TypeId} (h : (b, Obj.cells cs t (0, 0)) ∈ bs) (hB : B ≤ b) (c' : Array Value) : Sit B w0 tb q ((b, .cells c' t (0, 0)) :: bs.filter (fun p => p.1 != b)) (u.setRow b c') := by
  obtain ⟨h1, h2, h3, F, h4, h5, h6⟩ := s
  have hF : ¬ F b := h6 _ h
  refine ⟨Below.setRow h1 hB _, h2, fun p hp => ?_, F, h4.of_lies (X := fun j => j = b) (Lies.setRow (Lies.refl (fun j => j = b) u) (b := b) (.inl rfl) c') (fun j hj e => hF (e ▸ hj)), h5, fun p hp => ?_⟩
  · rcases List.mem_cons.1 hp with rfl | hp
    · exact setRow_heap _ _ _ _ _ _ (h3 _ h)
    · obtain ⟨hp, hne⟩ := List.mem_filter.1 hp
      rw [setRow_other _ _ _ _ (by simpa using hne)]; exact h3 p hp
  · rcases List.mem_cons.1 hp with rfl | hp
    · exact hF
    · exact h6 p (List.mem_filter.1 hp).1
theorem Sit.turns (s : Sit B w0 tb q bs u) {r : Int × St} {f : FuncId} {args : Array Value} (h : ∀ F : Nat → Prop, TripsAt F u tb q → Calls Tryz.prog f args u (Turns F tb r u)) :
    Calls Tryz.prog f args u fun e w' => e = .returned (.int .i64 r.1) ∧ Sit B w0 tb r.2 bs w' := by
  have hs := s.size
  obtain ⟨h1, h2, h3, F, h4, h5, h6⟩ := s
  refine (h F h4).mono ?_
  rintro e w' ⟨rfl, G, g1, g2, g3⟩
  refine ⟨rfl, h1.trans (g2.below hs h5), h2, fun p hp => ?_, G, g1, fun j hj => ?_, fun p hp e => ?_⟩
  · have := h3 p hp
    exact (g2.block _ (Array.getElem?_eq_some_iff.1 this).1 (h6 p hp)).trans this
  · rcases g3 j hj with e | e
    · exact h5 j e
    · omega
  · have := (Array.getElem?_eq_some_iff.1 (h3 p hp)).1
    rcases g3 _ e with e | e
    · exact h6 p hp e
    · omega
theorem Sit.assign (s : Sit B w0 tb q bs u) (tick : Int) (k : List Value) (hk : Bs 16 k) (hn : q.l.length ≤ 1048576) : Calls Tryz.prog 14 #[.pointer (some ⟨tb, 0, none⟩), .int .i64 tick, .agg k.toArray] u fun e w' => e = .returned (.int .i64 (q.assign tick k).1) ∧ Sit B w0 tb (q.assign tick k).2 bs w' :=
  s.turns fun F h => assign_at h tick k hk hn
theorem Sit.go (s : Sit B w0 tb q bs u) (tick n : Int) (k : List Value) (hk : Bs 16 k) : Calls Tryz.prog 16 #[.pointer (some ⟨tb, 0, none⟩), .int .i64 tick, .agg k.toArray, .int .u8 n] u fun e w' => e = .returned (.int .i64 (q.go tick k n).1) ∧ Sit B w0 tb (q.go tick k n).2 bs w' :=
  s.turns fun F h => go_at h tick n k hk
theorem Sit.gives (s : Sit B w0 tb q bs u) {f : FuncId} {args : Array Value} {r : Value} (h : Calls Tryz.prog f args u (Gives r u)) : Calls Tryz.prog f args u fun e w' => e = .returned r ∧ Sit B w0 tb q bs w' ∧ Below u.heap.size u w' :=
  h.mono fun e w' ⟨he, x, hx⟩ => ⟨he, hx ▸ s.up x.h, hx ▸ x.h⟩
theorem Sit.get (s : Sit B w0 tb q bs u) (k : List Value) (hk : Bs 16 k) : Calls Tryz.prog 18 #[.pointer (some ⟨tb, 0, none⟩), .agg k.toArray] u fun e w' => e = .returned (tripV (q.find k)) ∧ Sit B w0 tb q bs w' ∧ Below u.heap.size u w' :=
  s.gives (get_ok s.2.2.2.choose_spec.1 k hk)
theorem Sit.of (s : Sit B w0 tb q bs u) (d : List Value) (hd : Bs 8 d) : Calls Tryz.prog 20 #[.pointer (some ⟨tb, 0, none⟩), .agg d.toArray] u fun e w' => e = .returned (tripV (q.onD d)) ∧ Sit B w0 tb q bs w' ∧ Below u.heap.size u w' :=
  s.gives (of_ok s.2.2.2.choose_spec.1 d hd)
theorem Sit.list (s : Sit B w0 tb q bs u) (hn : q.l.length ≤ 1048576) : Calls Tryz.prog 8 #[.pointer (some ⟨tb, 0, none⟩)] u fun e w' => ∃ v, e = .returned v ∧ Sit B w0 tb q bs w' ∧ Below u.heap.size u w' ∧ w'.ownsRow u.heap.size 83 23 v q.l.length ((q.l.map Tr.cells).flatMap id) :=
  (list_ok s.2.2.2.choose_spec.1 hn).mono fun e w' ⟨v, he, hb, ho⟩ => ⟨v, he, s.up hb, hb, ho⟩
end
theorem sit_new (w0 u : World) (B : Nat) (hB : B ≤ w0.heap.size) (hb : Below B w0 u) (bs : List (Nat × Obj)) (hbs : ∀ p ∈ bs, u.heap[p.1]? = some p.2) : Calls Tryz.prog 5 #[] u fun e w' => ∃ tb, e = .returned (.pointer (some ⟨tb, 0, none⟩)) ∧ Sit B w0 tb ⟨0, []⟩ bs w' := by
  refine (new_at u).mono ?_
  rintro e w' ⟨tb, rfl, h1, h2⟩
  have := hb.size
  refine ⟨tb, rfl, hb.trans (h1.mono (by omega)), hB, fun p hp => ?_, _, h2, fun j hj => by omega, fun p hp e => ?_⟩
  · exact (h1.block _ (Array.getElem?_eq_some_iff.1 (hbs p hp)).1).trans (hbs p hp)
  · have := (Array.getElem?_eq_some_iff.1 (hbs p hp)).1; omega
/-! ### a list of one -/
theorem find_one (c : Int) (t : Tr) : St.find ⟨c, [t]⟩ t.k = some t := by
  classical
  unfold St.find; rw [List.find?_cons_of_pos]; exact decide_eq_true rfl
theorem assign_first (tick : Int) (k : List Value) (h0 : 0 ≤ tick) (h1 : tick ≤ 1099511627776) : (⟨0, []⟩ : St).assign tick k = (0, ⟨tick, [newTr k tick]⟩) := by
  classical
  unfold St.assign
  have e : atE tick (⟨0, []⟩ : St).clock = 0 := by show atE tick 0 = 0; unfold atE; rw [if_neg (by omega), if_neg (by omega)]
  rw [if_neg (by simpa using e), if_neg (by simp)]; rfl
theorem assign_again (c tick : Int) (t : Tr) (h0 : c ≤ tick) (h1 : tick ≤ 1099511627776) (h2 : 0 ≤ tick) : (⟨c, [t]⟩ : St).assign tick t.k = (130, ⟨c, [t]⟩) := by
  classical
  unfold St.assign
  have e : atE tick (⟨c, [t]⟩ : St).clock = 0 := by show atE tick c = 0; unfold atE; rw [if_neg (by omega), if_neg (by omega)]
  rw [if_neg (by simpa using e), if_pos (.inl ⟨t, by simp, rfl⟩)]
theorem go_one (c tick s : Int) (t : Tr) (h0 : c ≤ tick) (h1 : tick ≤ 1099511627776) (h2 : 0 ≤ tick) (h3 : 2 ≤ s) (h4 : s ≤ 5) : (⟨c, [t]⟩ : St).go tick t.k s = if fol t.s s = true then (0, ⟨tick, [⟨t.k, s, t.ts.set s.toNat tick⟩]⟩) else (240, ⟨c, [t]⟩) := by
  unfold St.go
  have e : atE tick (⟨c, [t]⟩ : St).clock = 0 := by show atE tick c = 0; unfold atE; rw [if_neg (by omega), if_neg (by omega)]
  rw [if_neg (by omega), if_neg (by simpa using e), find_one]
  simp only [List.map_cons, List.map_nil, turn_at]
theorem go_late (c tick s : Int) (t : Tr) (h0 : tick < c) (h1 : tick ≤ 1099511627776) (h2 : 0 ≤ tick) (h3 : 2 ≤ s) (h4 : s ≤ 5) (k : List Value) : (⟨c, [t]⟩ : St).go tick k s = (4, ⟨c, [t]⟩) := by
  unfold St.go
  have e : atE tick (⟨c, [t]⟩ : St).clock = 4 := by show atE tick c = 4; unfold atE; rw [if_neg (by omega), if_pos (by omega)]
  rw [if_neg (by omega), if_pos (by rw [e]; decide), e]
theorem onD_one (c : Int) (t : Tr) (ho : t.on) : St.onD ⟨c, [t]⟩ t.driver = some t := by
  classical
  unfold St.onD; rw [List.find?_cons_of_pos]; exact decide_eq_true ⟨ho, rfl⟩
end Go.Proofs.YtnooghehmgbemaaGreat
