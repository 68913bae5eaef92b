/- TripPlays: two lists of trips, two references, one book. -/
import Derived.Test.YtnooghehmgbemaaGreatP18
namespace Go.Proofs.YtnooghehmgbemaaGreat
open Go.RowKit
set_option linter.unusedVariables false
set_option linter.unusedSimpArgs false

structure FiveIn (w0 w : World) (tb rb ub sb kb : Nat) (q1 q2 : St) (es : List HE) (bs : List (Nat × Obj)) (F : Nat → Nat → Prop) : Prop where
  t : TripsAt (F 0) w tb q1
  r : RefAt (F 1) w rb q1
  u : TripsAt (F 2) w ub q2
  s : RefAt (F 3) w sb q2
  k : BookAt (F 4) w kb es
  ap : ∀ i j b, F i b → F j b → i = j
  hi : ∀ i b, F i b → w0.heap.size ≤ b ∧ b < w.heap.size
  below : Below w0.heap.size w0 w
  hb : ∀ p ∈ bs, w.heap[p.1]? = some p.2
  nb : ∀ p ∈ bs, ∀ i, ¬ F i p.1
def Five (w0 w : World) (tb rb ub sb kb : Nat) (q1 q2 : St) (es : List HE) (bs : List (Nat × Obj)) : Prop := ∃ F, FiveIn w0 w tb rb ub sb kb q1 q2 es bs F
def sw (i : Nat) : Nat := if i = 0 then 2 else if i = 1 then 3 else if i = 2 then 0 else if i = 3 then 1 else i
theorem sw_inj {i j : Nat} (h : sw i = sw j) : i = j := by
  unfold sw at h
  by_cases h0 : i = 0 <;> by_cases h1 : i = 1 <;> by_cases h2 : i = 2 <;> by_cases h3 : i = 3 <;> by_cases g0 : j = 0 <;> by_cases g1 : j = 1 <;> by_cases g2 : j = 2 <;> by_cases g3 : j = 3 <;> simp_all <;> omega
section
variable {w0 w v : World} {tb rb ub sb kb : Nat} {q1 q2 : St} {es : List HE} {bs : List (Nat × Obj)}
theorem Five.swap (h : Five w0 w tb rb ub sb kb q1 q2 es bs) : Five w0 w ub sb tb rb kb q2 q1 es bs := by
  obtain ⟨F, h⟩ := h
  exact ⟨fun i => F (sw i), {
    t := h.u
    r := h.s
    u := h.t
    s := h.r
    k := h.k
    ap := fun i j b hb hb' => sw_inj (h.ap _ _ b hb hb')
    hi := fun i b hb => h.hi _ b hb
    below := h.below
    hb := h.hb
    nb := fun p hp i => h.nb p hp _ }⟩
theorem Five.sub (h : Five w0 w tb rb ub sb kb q1 q2 es bs) {cs : List (Nat × Obj)} (hc : ∀ p ∈ cs, p ∈ bs) : Five w0 w tb rb ub sb kb q1 q2 es cs := by
  obtain ⟨F, h⟩ := h
  exact ⟨F, { h with hb := fun p hp => h.hb p (hc p hp), nb := fun p hp => h.nb p (hc p hp) }⟩
theorem Five.add (h : Five w0 w tb rb ub sb kb q1 q2 es bs) (hb : Below w.heap.size w v) {cs : List (Nat × Obj)} (hc : ∀ p ∈ cs, w.heap.size ≤ p.1 ∧ v.heap[p.1]? = some p.2) : Five w0 v tb rb ub sb kb q1 q2 es (cs ++ bs) := by
  obtain ⟨F, h⟩ := h
  have hl : Lies (fun _ => False) w v := Lies.of_below hb
  exact ⟨F, { h with
    t := h.t.of_lies hl (fun _ _ => id)
    r := h.r.of_lies hl (fun _ _ => id)
    u := h.u.of_lies hl (fun _ _ => id)
    s := h.s.of_lies hl (fun _ _ => id)
    k := h.k.of_lies hl (fun _ _ => id)
    hi := fun i b hf => ⟨(h.hi i b hf).1, Nat.lt_of_lt_of_le (h.hi i b hf).2 hb.size⟩
    below := h.below.trans (hb.mono h.below.size)
    hb := fun p hp => by
      rcases List.mem_append.1 hp with hp | hp
      · exact (hc p hp).2
      · exact (hb.block _ (Array.getElem?_eq_some_iff.1 (h.hb p hp)).1).trans (h.hb p hp)
    nb := fun p hp i hf => by
      rcases List.mem_append.1 hp with hp | hp
      · have := (hc p hp).1; have := (h.hi i _ hf).2; omega
      · exact h.nb p hp i hf }⟩
theorem Five.up (h : Five w0 w tb rb ub sb kb q1 q2 es bs) (hb : Below w.heap.size w v) : Five w0 v tb rb ub sb kb q1 q2 es bs := by
  have := h.add (cs := []) hb (by simp)
  simpa using this
theorem Five.below (h : Five w0 w tb rb ub sb kb q1 q2 es bs) : Below w0.heap.size w0 w := by obtain ⟨F, h⟩ := h; exact h.below
theorem Five.gives (h : Five w0 w tb rb ub sb kb q1 q2 es bs) {f : FuncId} {args : Array Value} {r : Value} (hc : Calls Tryz.prog f args w (Gives r w)) : Calls Tryz.prog f args w fun e w' => e = .returned r ∧ Five w0 w' tb rb ub sb kb q1 q2 es bs :=
  hc.mono fun e w' ⟨he, x, hx⟩ => ⟨he, hx ▸ h.up x.h⟩
theorem Five.trip (h : Five w0 w tb rb ub sb kb q1 q2 es bs) : ∃ F, TripsAt F w tb q1 := by obtain ⟨F, h⟩ := h; exact ⟨_, h.t⟩
theorem Five.ref (h : Five w0 w tb rb ub sb kb q1 q2 es bs) : ∃ F, RefAt F w rb q1 := by obtain ⟨F, h⟩ := h; exact ⟨_, h.r⟩
theorem Five.ok (h : Five w0 w tb rb ub sb kb q1 q2 es bs) : q1.ok := by obtain ⟨F, h⟩ := h; exact h.t.2.1
/-- one call of the first list and of its reference -/
theorem Five.step (h : Five w0 w tb rb ub sb kb q1 q2 es []) (o : OpV) (ho : o.ok) (hn : q1.l.length ≤ 1048575) (he : es.length ≤ 3000000) :
    Calls Tryz.prog 7 #[.pointer (some ⟨tb, 0, none⟩), .pointer (some ⟨rb, 0, none⟩), .agg o.cells.toArray, .pointer (some ⟨kb, 0, none⟩)] w fun e w' => e = .returned (.bool true) ∧ ∃ q1' es', Five w0 w' tb rb ub sb kb q1' q2 es' [] ∧ q1'.l.length ≤ q1.l.length + 1 ∧ es'.length ≤ es.length + 1 := by
  obtain ⟨F, h⟩ := h
  refine (does_ok h.t h.r h.k (fun j a b => absurd (h.ap 0 1 j a b) (by decide)) (fun j a b => absurd (h.ap 0 4 j a b) (by decide)) (fun j a b => absurd (h.ap 1 4 j a b) (by decide)) o ho hn he).mono ?_
  rintro e w' ⟨rfl, q', es', ⟨Ft, Fr, Fk, s⟩, l1, l2⟩
  refine ⟨rfl, q', es', ⟨fun i b => if i = 0 then Ft b else if i = 1 then Fr b else if i = 4 then Fk b else F i b, ?_⟩, l1, l2⟩
  have hz := s.lies.size
  have far : ∀ i b, F i b → i ≠ 0 → i ≠ 1 → i ≠ 4 → ¬ (F 0 b ∨ F 1 b ∨ F 4 b) := fun i b hb n0 n1 n4 hh => by
    rcases hh with hh | hh | hh
    · exact n0 (h.ap i 0 b hb hh)
    · exact n1 (h.ap i 1 b hb hh)
    · exact n4 (h.ap i 4 b hb hh)
  have old : ∀ i b, (if i = 0 then Ft b else if i = 1 then Fr b else if i = 4 then Fk b else F i b) → F i b ∨ w.heap.size ≤ b := fun i b hb => by
    by_cases h0 : i = 0
    · rw [if_pos h0] at hb; rw [h0]; exact s.st b hb
    rw [if_neg h0] at hb
    by_cases h1 : i = 1
    · rw [if_pos h1] at hb; rw [h1]; exact s.sr b hb
    rw [if_neg h1] at hb
    by_cases h4 : i = 4
    · rw [if_pos h4] at hb; rw [h4]; exact s.sk b hb
    rw [if_neg h4] at hb
    exact .inl hb
  have new : ∀ i b, (if i = 0 then Ft b else if i = 1 then Fr b else if i = 4 then Fk b else F i b) → w.heap.size ≤ b → (i = 0 ∧ Ft b) ∨ (i = 1 ∧ Fr b) ∨ (i = 4 ∧ Fk b) := fun i b hb hw => by
    by_cases h0 : i = 0
    · rw [if_pos h0] at hb; exact .inl ⟨h0, hb⟩
    rw [if_neg h0] at hb
    by_cases h1 : i = 1
    · rw [if_pos h1] at hb; exact .inr (.inl ⟨h1, hb⟩)
    rw [if_neg h1] at hb
    by_cases h4 : i = 4
    · rw [if_pos h4] at hb; exact .inr (.inr ⟨h4, hb⟩)
    rw [if_neg h4] at hb
    have := (h.hi i b hb).2
    omega
  exact {
    t := by simpa using s.t
    r := by simpa using s.r
    u := by simpa using h.u.of_lies s.lies (fun j hj => far 2 j hj (by decide) (by decide) (by decide))
    s := by simpa using h.s.of_lies s.lies (fun j hj => far 3 j hj (by decide) (by decide) (by decide))
    k := by simpa using s.k
    ap := fun i j b hb hb' => by
      by_cases hw : w.heap.size ≤ b
      · rcases new i b hb hw with ⟨rfl, a⟩ | ⟨rfl, a⟩ | ⟨rfl, a⟩ <;> rcases new j b hb' hw with ⟨rfl, c⟩ | ⟨rfl, c⟩ | ⟨rfl, c⟩
        · rfl
        · exact (s.tr b a c).elim
        · exact (s.tk b a c).elim
        · exact (s.tr b c a).elim
        · rfl
        · exact (s.rk b a c).elim
        · exact (s.tk b c a).elim
        · exact (s.rk b c a).elim
        · rfl
      · exact h.ap i j b ((old i b hb).resolve_right hw) ((old j b hb').resolve_right hw)
    hi := fun i b hb => by
      refine ⟨?_, ?_⟩
      · rcases old i b hb with a | a
        · exact (h.hi i b a).1
        · exact Nat.le_trans h.below.size a
      · by_cases h0 : i = 0
        · rw [if_pos h0] at hb; exact s.t.1 b hb
        rw [if_neg h0] at hb
        by_cases h1 : i = 1
        · rw [if_pos h1] at hb; exact s.r.1 b hb
        rw [if_neg h1] at hb
        by_cases h4 : i = 4
        · rw [if_pos h4] at hb; exact s.k.1 b hb
        rw [if_neg h4] at hb
        exact Nat.lt_of_lt_of_le (h.hi i b hb).2 hz
    below := ⟨s.lies.os.trans h.below.os, s.lies.tape.trans h.below.tape, s.lies.output.trans h.below.output, Nat.le_trans h.below.size hz, fun j hj => (s.lies.block j (Nat.lt_of_lt_of_le hj h.below.size) (fun e => by
      rcases e with e | e | e
      · have := (h.hi 0 j e).1; omega
      · have := (h.hi 1 j e).1; omega
      · have := (h.hi 4 j e).1; omega)).trans (h.below.block j hj)⟩
    hb := by simp
    nb := by simp }
/-- List of the first, what it answers ready to be kept -/
theorem Five.listed (h : Five w0 w tb rb ub sb kb q1 q2 es bs) (hn : q1.l.length ≤ 1048576) : Calls Tryz.prog 8 #[.pointer (some ⟨tb, 0, none⟩)] w fun e w' => ∃ (x : Value) (e0 : HE) (cs : List (Nat × Obj)), e = .returned x ∧ e0.v = x ∧ e0.num = (es.length : Int) + 1 ∧ e0.len ≤ 1048576 ∧ e0.New w' ∧ (∀ b, e0.g = some b → ∃ o, (b, o) ∈ cs ++ bs) ∧ Five w0 w' tb rb ub sb kb q1 q2 es (cs ++ bs) ∧ ∀ u : World, (∀ p ∈ cs ++ bs, u.heap[p.1]? = some p.2) → RowT u x q1.l := by
  obtain ⟨F, hF⟩ := h.trip
  refine (list_ok hF hn).mono ?_
  rintro e w' ⟨x, rfl, hb, ho⟩
  rcases ho.2 with ⟨rfl, h0⟩ | ⟨g, cap, cur, rfl, hg, h1, h2, h3, h4, h5⟩
  · exact ⟨_, ⟨none, 0, 0, es.length + 1⟩, [], rfl, rfl, rfl, Nat.zero_le _, .inl ⟨rfl, rfl, rfl⟩, fun b hb => (by cases hb), h.up hb, fun u _ => by rw [List.eq_nil_of_length_eq_zero h0]; exact RowT.nil u⟩
  · refine ⟨_, ⟨some g, q1.l.length, cap, es.length + 1⟩, [(g, .cells cur 83 (0, 0))], rfl, rfl, rfl, hn, .inr ⟨g, cur, rfl, h1, h2, h3, h4⟩, fun b hb => ?_, h.add hb (fun p hp => by rw [List.mem_singleton.1 hp]; exact ⟨hg, h1⟩), fun u hu => ?_⟩
    · injection hb with hb; subst hb
      exact ⟨.cells cur 83 (0, 0), by simp⟩
    · exact ⟨_, cap, rfl, fun _ => ⟨g, cur, rfl, hu (g, _) (by simp), h5⟩⟩
theorem Five.keep (h : Five w0 w tb rb ub sb kb q1 q2 es bs) (e : HE) (hN : e.num = (es.length : Int) + 1) (hlf : e.New w) (hnF : ∀ b, e.g = some b → w0.heap.size ≤ b ∧ ∃ o, (b, o) ∈ bs) (hel : e.len ≤ 1048576) (hn : es.length ≤ 4000000) :
    Calls Tryz.prog 22 #[.pointer (some ⟨kb, 0, none⟩), e.v] w fun en w' => en = .returned (.tuple #[]) ∧ Five w0 w' tb rb ub sb kb q1 q2 (es ++ [e]) [] ∧ ∀ p ∈ bs, w'.heap[p.1]? = some p.2 := by
  obtain ⟨F, h⟩ := h
  refine (keep_ok h.k e hN hlf (fun b hb hF => by obtain ⟨_, o, ho⟩ := hnF b hb; exact h.nb _ ho 4 hF) hel hn).mono ?_
  rintro en w' ⟨rfl, G, g1, g2, g3⟩
  have hz := g2.size
  have far : ∀ i b, F i b → i ≠ 4 → ¬ F 4 b := fun i b hb n hh => n (h.ap i 4 b hb hh)
  refine ⟨rfl, ⟨fun i b => if i = 4 then G b else F i b, ?_⟩, fun p hp => (g2.block _ (Array.getElem?_eq_some_iff.1 (h.hb p hp)).1 (h.nb p hp 4)).trans (h.hb p hp)⟩
  have gno : ∀ i b, F i b → i ≠ 4 → ¬ G b := fun i b hb n hg => by
    rcases g3 b hg with hh | hh | hh
    · exact n (h.ap i 4 b hb hh)
    · obtain ⟨_, o, ho⟩ := hnF b hh; exact h.nb _ ho i hb
    · have := (h.hi i b hb).2; omega
  exact {
    t := by simpa using h.t.of_lies g2 (fun j hj => far 0 j hj (by decide))
    r := by simpa using h.r.of_lies g2 (fun j hj => far 1 j hj (by decide))
    u := by simpa using h.u.of_lies g2 (fun j hj => far 2 j hj (by decide))
    s := by simpa using h.s.of_lies g2 (fun j hj => far 3 j hj (by decide))
    k := by simpa using g1
    ap := fun i j b hb hb' => by
      by_cases h4 : i = 4 <;> by_cases h4' : j = 4
      · rw [h4, h4']
      · rw [if_pos h4] at hb; rw [if_neg h4'] at hb'; exact (gno j b hb' h4' hb).elim
      · rw [if_neg h4] at hb; rw [if_pos h4'] at hb'; exact (gno i b hb h4 hb').elim
      · rw [if_neg h4] at hb; rw [if_neg h4'] at hb'; exact h.ap i j b hb hb'
    hi := fun i b hb => by
      by_cases h4 : i = 4
      · rw [if_pos h4] at hb
        refine ⟨?_, g1.1 b hb⟩
        rcases g3 b hb with hh | hh | hh
        · exact (h.hi 4 b hh).1
        · exact (hnF b hh).1
        · exact Nat.le_trans h.below.size hh
      · rw [if_neg h4] at hb
        exact ⟨(h.hi i b hb).1, Nat.lt_of_lt_of_le (h.hi i b hb).2 hz⟩
    below := ⟨g2.os.trans h.below.os, g2.tape.trans h.below.tape, g2.output.trans h.below.output, Nat.le_trans h.below.size hz, fun j hj => (g2.block j (Nat.lt_of_lt_of_le hj h.below.size) (fun e => by have := (h.hi 4 j e).1; omega)).trans (h.below.block j hj)⟩
    hb := by simp
    nb := by simp }
/-- behind Apart trips and reference stand as they stood -/
theorem Five.apart (h : Five w0 w tb rb ub sb kb q1 q2 es bs) (hn : es.length ≤ 4000000) : Calls Tryz.prog 12 #[.pointer (some ⟨kb, 0, none⟩)] w fun e w' => e = .returned (.bool true) ∧ Below w0.heap.size w0 w' ∧ (∃ F, TripsAt F w' tb q1) ∧ ∃ F, RefAt F w' rb q1 := by
  obtain ⟨F, h⟩ := h
  refine (apart_ok h.k hn).mono ?_
  rintro e w' ⟨rfl, g2⟩
  exact ⟨rfl, ⟨g2.os.trans h.below.os, g2.tape.trans h.below.tape, g2.output.trans h.below.output, Nat.le_trans h.below.size g2.size, fun j hj => (g2.block j (Nat.lt_of_lt_of_le hj h.below.size) (fun e => by have := (h.hi 4 j e).1; omega)).trans (h.below.block j hj)⟩,
    ⟨F 0, h.t.of_lies g2 (fun j a b => absurd (h.ap 0 4 j a b) (by decide))⟩, ⟨F 1, h.r.of_lies g2 (fun j a b => absurd (h.ap 1 4 j a b) (by decide))⟩⟩
end
set_option maxHeartbeats 2000000 in
theorem beyond_ok (b : Nat) (n : Nat) (hn : n ≤ 9223372036854775807) (w : World) (c : w.cell? ⟨b, 0, none⟩ = some (.int .i64 n)) : Calls Tryz.prog 4 #[.slice (some ⟨b, 0, none⟩) 1 1] w (Keeps (.bool (decide (1048576 < n))) w) := by
  by_cases h : 1048576 < n
  · rw [decide_eq_true h]
    go_enter Tryz.func4, Tryz.ntmps4
    go_wp2_with fail
    refine wp_loop_rounds 2 ?_
    rw [rounds_succ]
    go_wp2_with fail
    go_ret
    exact keeps_eq rfl
  · rw [decide_eq_false h]
    go_enter Tryz.func4, Tryz.ntmps4
    go_wp2_with fail
    refine wp_loop_rounds 2 ?_
    rw [rounds_succ]
    go_wp2_with fail
    rw [rounds_succ]
    go_wp2_with fail
    go_ret
    exact keeps_eq rfl
end Go.Proofs.YtnooghehmgbemaaGreat
