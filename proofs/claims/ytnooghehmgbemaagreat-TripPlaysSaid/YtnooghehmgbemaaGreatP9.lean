/- TripPlays: trips, their reference and the book, side by side. -/
import Derived.Test.YtnooghehmgbemaaGreatP8
namespace Go.Proofs.YtnooghehmgbemaaGreat
open Go.RowKit
set_option linter.unusedVariables false
set_option linter.unusedSimpArgs false

/-- trips at tb, the reference's at rb, the book at kb, in w: their blocks lie apart from each other and from bs; since w0 only theirs and new ones have changed -/
structure TriIn (w0 : World) (T0 R0 K0 : Nat → Prop) (w : World) (tb rb kb : Nat) (qt qr : St) (es : List HE) (bs : List (Nat × Obj)) (Ft Fr Fk : Nat → Prop) : Prop where
  t : TripsAt Ft w tb qt
  r : RefAt Fr w rb qr
  k : BookAt Fk w kb es
  tr : ∀ j, Ft j → ¬ Fr j
  tk : ∀ j, Ft j → ¬ Fk j
  rk : ∀ j, Fr j → ¬ Fk j
  lies : Lies (fun j => T0 j ∨ R0 j ∨ K0 j) w0 w
  st : ∀ j, Ft j → T0 j ∨ w0.heap.size ≤ j
  sr : ∀ j, Fr j → R0 j ∨ w0.heap.size ≤ j
  sk : ∀ j, Fk j → K0 j ∨ w0.heap.size ≤ j
  hb : ∀ p ∈ bs, w.heap[p.1]? = some p.2
  ap : ∀ p ∈ bs, ¬ Ft p.1 ∧ ¬ Fr p.1 ∧ ¬ Fk p.1
def Tri (w0 : World) (T0 R0 K0 : Nat → Prop) (w : World) (tb rb kb : Nat) (qt qr : St) (es : List HE) (bs : List (Nat × Obj)) : Prop := ∃ Ft Fr Fk, TriIn w0 T0 R0 K0 w tb rb kb qt qr es bs Ft Fr Fk
section
variable {w0 w u : World} {T0 R0 K0 : Nat → Prop} {tb rb kb : Nat} {qt qr : St} {es : List HE} {bs : List (Nat × Obj)}
theorem tri_first (hT : TripsAt T0 w tb qt) (hR : RefAt R0 w rb qr) (hK : BookAt K0 w kb es) (h1 : ∀ j, T0 j → ¬ R0 j) (h2 : ∀ j, T0 j → ¬ K0 j) (h3 : ∀ j, R0 j → ¬ K0 j) : Tri w T0 R0 K0 w tb rb kb qt qr es [] :=
  ⟨T0, R0, K0, hT, hR, hK, h1, h2, h3, Lies.refl _ w, fun _ h => .inl h, fun _ h => .inl h, fun _ h => .inl h, by simp, by simp⟩
theorem Tri.at (s : Tri w0 T0 R0 K0 w tb rb kb qt qr es bs) {b : Nat} {o : Obj} (h : (b, o) ∈ bs) : w.heap[b]? = some o := by obtain ⟨_, _, _, s⟩ := s; exact s.hb _ h
theorem Tri.ok (s : Tri w0 T0 R0 K0 w tb rb kb qt qr es bs) : qt.ok := by obtain ⟨_, _, _, s⟩ := s; exact s.t.2.1
theorem Tri.size (s : Tri w0 T0 R0 K0 w tb rb kb qt qr es bs) : w0.heap.size ≤ w.heap.size := by obtain ⟨_, _, _, s⟩ := s; exact s.lies.size
theorem Tri.sub (s : Tri w0 T0 R0 K0 w tb rb kb qt qr es bs) {cs : List (Nat × Obj)} (h : ∀ p ∈ cs, p ∈ bs) : Tri w0 T0 R0 K0 w tb rb kb qt qr es cs := by
  obtain ⟨Ft, Fr, Fk, s⟩ := s
  exact ⟨Ft, Fr, Fk, { s with hb := fun p hp => s.hb p (h p hp), ap := fun p hp => s.ap p (h p hp) }⟩
theorem Tri.up (s : Tri w0 T0 R0 K0 w tb rb kb qt qr es bs) (h : Below w.heap.size w u) : Tri w0 T0 R0 K0 u tb rb kb qt qr es bs := by
  obtain ⟨Ft, Fr, Fk, s⟩ := s
  have hl : Lies (fun _ => False) w u := Lies.of_below h
  exact ⟨Ft, Fr, Fk, { s with
    t := s.t.of_lies hl (fun _ _ => id)
    r := s.r.of_lies hl (fun _ _ => id)
    k := s.k.of_lies hl (fun _ _ => id)
    lies := s.lies.trans ((Lies.of_below (X := fun j => T0 j ∨ R0 j ∨ K0 j) h))
    hb := fun p hp => (h.block _ (Array.getElem?_eq_some_iff.1 (s.hb p hp)).1).trans (s.hb p hp) }⟩
theorem Tri.drew (s : Tri w0 T0 R0 K0 w tb rb kb qt qr es bs) : Tri w0 T0 R0 K0 w.drew tb rb kb qt qr es bs := s.up ((Below.refl _ w).drew)
theorem Tri.add (s : Tri w0 T0 R0 K0 w tb rb kb qt qr es bs) (h : Below w.heap.size w u) {b : Nat} {o : Obj} (hb : w.heap.size ≤ b) (ho : u.heap[b]? = some o) : Tri w0 T0 R0 K0 u tb rb kb qt qr es ((b, o) :: bs) := by
  obtain ⟨Ft, Fr, Fk, s'⟩ := s.up h
  obtain ⟨Gt, Gr, Gk, s⟩ := s
  have hl : Lies (fun _ => False) w u := Lies.of_below h
  refine ⟨Gt, Gr, Gk, { s with
    t := s.t.of_lies hl (fun _ _ => id)
    r := s.r.of_lies hl (fun _ _ => id)
    k := s.k.of_lies hl (fun _ _ => id)
    lies := s.lies.trans ((Lies.of_below (X := fun j => T0 j ∨ R0 j ∨ K0 j) h))
    hb := fun p hp => ?_
    ap := fun p hp => ?_ }⟩
  · rcases List.mem_cons.1 hp with rfl | hp
    · exact ho
    · exact (h.block _ (Array.getElem?_eq_some_iff.1 (s.hb p hp)).1).trans (s.hb p hp)
  · rcases List.mem_cons.1 hp with rfl | hp
    · exact ⟨fun e => by have := s.t.1 _ e; omega, fun e => by have := s.r.1 _ e; omega, fun e => by have := s.k.1 _ e; omega⟩
    · exact s.ap p hp
theorem Tri.alloc (s : Tri w0 T0 R0 K0 w tb rb kb qt qr es bs) (o : Obj) : Tri w0 T0 R0 K0 (w.alloc o) tb rb kb qt qr es ((w.heap.size, o) :: bs) :=
  s.add ((Below.refl _ w).alloc (Nat.le_refl _) _) (Nat.le_refl _) (heap_last w o)
theorem Tri.box (s : Tri w0 T0 R0 K0 w tb rb kb qt qr es bs) (z cs : Array Value) (t : TypeId) : Tri w0 T0 R0 K0 ((w.alloc (.cells z t)).setRow w.heap.size cs) tb rb kb qt qr es ((w.heap.size, .cells cs t (0, 0)) :: bs) :=
  s.add (Below.setRow ((Below.refl _ w).alloc (Nat.le_refl _) _) (Nat.le_refl _) _) (Nat.le_refl _) (setRow_heap _ _ _ _ _ _ (heap_last w _))
theorem Tri.gives (s : Tri w0 T0 R0 K0 w tb rb kb qt qr es bs) {f : FuncId} {args : Array Value} {r : Value} (h : Calls Tryz.prog f args w (Gives r w)) : Calls Tryz.prog f args w fun e w' => e = .returned r ∧ Tri w0 T0 R0 K0 w' tb rb kb qt qr es bs :=
  h.mono fun e w' ⟨he, x, hx⟩ => ⟨he, hx ▸ s.up x.h⟩
theorem Tri.trip (s : Tri w0 T0 R0 K0 w tb rb kb qt qr es bs) : ∃ F, TripsAt F w tb qt := by obtain ⟨Ft, _, _, s⟩ := s; exact ⟨Ft, s.t⟩
theorem Tri.ref (s : Tri w0 T0 R0 K0 w tb rb kb qt qr es bs) : ∃ F, RefAt F w rb qr := by obtain ⟨_, Fr, _, s⟩ := s; exact ⟨Fr, s.r⟩
theorem Tri.turn (s : Tri w0 T0 R0 K0 w tb rb kb qt qr es bs) {r : Int × St} {f : FuncId} {args : Array Value} (h : ∀ F : Nat → Prop, TripsAt F w tb qt → Calls Tryz.prog f args w (Turns F tb r w)) :
    Calls Tryz.prog f args w fun e w' => e = .returned (.int .i64 r.1) ∧ Tri w0 T0 R0 K0 w' tb rb kb r.2 qr es bs := by
  have hz := s.size
  obtain ⟨Ft, Fr, Fk, s⟩ := s
  refine (h Ft s.t).mono ?_
  rintro e w' ⟨rfl, G, g1, g2, g3⟩
  refine ⟨rfl, G, Fr, Fk, { s with
    t := g1
    r := s.r.of_lies g2 (fun j hj hx => s.tr j hx hj)
    k := s.k.of_lies g2 (fun j hj hx => s.tk j hx hj)
    tr := fun j hj hx => (g3 j hj).elim (fun h => s.tr j h hx) (fun h => by have := s.r.1 j hx; omega)
    tk := fun j hj hx => (g3 j hj).elim (fun h => s.tk j h hx) (fun h => by have := s.k.1 j hx; omega)
    lies := ⟨g2.os.trans s.lies.os, g2.tape.trans s.lies.tape, g2.output.trans s.lies.output, Nat.le_trans s.lies.size g2.size, fun j hj hx => (g2.block j (Nat.lt_of_lt_of_le hj s.lies.size) (fun e => by
      rcases s.st j e with h | h
      · exact hx (.inl h)
      · omega)).trans (s.lies.block j hj hx)⟩
    st := fun j hj => (g3 j hj).elim (s.st j) (fun h => .inr (by omega))
    hb := fun p hp => (g2.block _ (Array.getElem?_eq_some_iff.1 (s.hb p hp)).1 (s.ap p hp).1).trans (s.hb p hp)
    ap := fun p hp => ⟨fun e => (g3 _ e).elim (s.ap p hp).1 (fun h => by have := (Array.getElem?_eq_some_iff.1 (s.hb p hp)).1; omega), (s.ap p hp).2⟩ }⟩
theorem Tri.rturn (s : Tri w0 T0 R0 K0 w tb rb kb qt qr es bs) {r : Int × St} {f : FuncId} {args : Array Value} (h : ∀ F : Nat → Prop, RefAt F w rb qr → Calls Tryz.prog f args w (RTurns F rb r w)) :
    Calls Tryz.prog f args w fun e w' => e = .returned (.int .i64 r.1) ∧ Tri w0 T0 R0 K0 w' tb rb kb qt r.2 es bs := by
  have hz := s.size
  obtain ⟨Ft, Fr, Fk, s⟩ := s
  refine (h Fr s.r).mono ?_
  rintro e w' ⟨rfl, G, g1, g2, g3⟩
  refine ⟨rfl, Ft, G, Fk, { s with
    r := g1
    t := s.t.of_lies g2 (fun j hj hx => s.tr j hj hx)
    k := s.k.of_lies g2 (fun j hj hx => s.rk j hx hj)
    tr := fun j hj hx => (g3 j hx).elim (fun h => s.tr j hj h) (fun h => by have := s.t.1 j hj; omega)
    rk := fun j hj hx => (g3 j hj).elim (fun h => s.rk j h hx) (fun h => by have := s.k.1 j hx; omega)
    lies := ⟨g2.os.trans s.lies.os, g2.tape.trans s.lies.tape, g2.output.trans s.lies.output, Nat.le_trans s.lies.size g2.size, fun j hj hx => (g2.block j (Nat.lt_of_lt_of_le hj s.lies.size) (fun e => by
      rcases s.sr j e with h | h
      · exact hx (.inr (.inl h))
      · omega)).trans (s.lies.block j hj hx)⟩
    sr := fun j hj => (g3 j hj).elim (s.sr j) (fun h => .inr (by omega))
    hb := fun p hp => (g2.block _ (Array.getElem?_eq_some_iff.1 (s.hb p hp)).1 (s.ap p hp).2.1).trans (s.hb p hp)
    ap := fun p hp => ⟨(s.ap p hp).1, fun e => (g3 _ e).elim (s.ap p hp).2.1 (fun h => by have := (Array.getElem?_eq_some_iff.1 (s.hb p hp)).1; omega), (s.ap p hp).2.2⟩ }⟩
/-- a list that lies apart is kept in the book -/
theorem Tri.keep (s : Tri w0 T0 R0 K0 w tb rb kb qt qr es bs) (e : HE) (hN : e.num = (es.length : Int) + 1) (hlf : e.New w) (hnF : ∀ b, e.g = some b → w0.heap.size ≤ b ∧ ∃ o, (b, o) ∈ bs) (hel : e.len ≤ 1048576) (hn : es.length ≤ 4000000) :
    Calls Tryz.prog 22 #[.pointer (some ⟨kb, 0, none⟩), e.v] w fun en w' => en = .returned (.tuple #[]) ∧ Tri w0 T0 R0 K0 w' tb rb kb qt qr (es ++ [e]) (bs.filter fun p => decide (e.g ≠ some p.1)) ∧ ∀ p ∈ bs, w'.heap[p.1]? = some p.2 := by
  have hz := s.size
  obtain ⟨Ft, Fr, Fk, s⟩ := s
  refine (keep_ok s.k e hN hlf (fun b hb hF => by obtain ⟨_, o, ho⟩ := hnF b hb; exact (s.ap _ ho).2.2 hF) hel hn).mono ?_
  rintro en w' ⟨rfl, G, g1, g2, g3⟩
  have hbs : ∀ p ∈ bs, w'.heap[p.1]? = some p.2 := fun p hp => (g2.block _ (Array.getElem?_eq_some_iff.1 (s.hb p hp)).1 (s.ap p hp).2.2).trans (s.hb p hp)
  refine ⟨rfl, ⟨Ft, Fr, G, { s with
    k := g1
    t := s.t.of_lies g2 (fun j hj hx => s.tk j hj hx)
    r := s.r.of_lies g2 (fun j hj hx => s.rk j hj hx)
    tk := fun j hj hx => by
      rcases g3 j hx with h | h | h
      · exact s.tk j hj h
      · obtain ⟨_, o, ho⟩ := hnF j h; exact (s.ap _ ho).1 hj
      · have := s.t.1 j hj; omega
    rk := fun j hj hx => by
      rcases g3 j hx with h | h | h
      · exact s.rk j hj h
      · obtain ⟨_, o, ho⟩ := hnF j h; exact (s.ap _ ho).2.1 hj
      · have := s.r.1 j hj; omega
    lies := ⟨g2.os.trans s.lies.os, g2.tape.trans s.lies.tape, g2.output.trans s.lies.output, Nat.le_trans s.lies.size g2.size, fun j hj hx => (g2.block j (Nat.lt_of_lt_of_le hj s.lies.size) (fun e => by
      rcases s.sk j e with h | h
      · exact hx (.inr (.inr h))
      · omega)).trans (s.lies.block j hj hx)⟩
    sk := fun j hj => by
      rcases g3 j hj with h | h | h
      · exact s.sk j h
      · exact .inr (hnF j h).1
      · exact .inr (by omega)
    hb := fun p hp => hbs p (List.mem_filter.1 hp).1
    ap := fun p hp => by
      obtain ⟨hp, hne⟩ := List.mem_filter.1 hp
      refine ⟨(s.ap p hp).1, (s.ap p hp).2.1, fun h => ?_⟩
      rcases g3 _ h with h | h | h
      · exact (s.ap p hp).2.2 h
      · exact (of_decide_eq_true hne) h
      · have := (Array.getElem?_eq_some_iff.1 (s.hb p hp)).1; omega }⟩, hbs⟩
end
/-- Book.Trips is keepTrip -/
theorem trips_keep {w : World} {kb : Nat} {v : Value} {R : World → Prop} (h : Calls Tryz.prog 22 #[.pointer (some ⟨kb, 0, none⟩), v] w fun en w' => en = .returned (.tuple #[]) ∧ R w') : Calls Tryz.prog 9 #[.pointer (some ⟨kb, 0, none⟩), v] w fun en w' => en = .returned (.tuple #[]) ∧ R w' := by
  have H := Lib.hid h
  clear h
  go_enter Tryz.func9, Tryz.ntmps9
  go_wp2_with fail
  refine H.out.mono ?_
  rintro en w' ⟨rfl, h⟩
  go_wp2_with fail
  refine bodyPost_end (results_none rfl _ _ _) rfl ?_
  exact ⟨rfl, h⟩
end Go.Proofs.YtnooghehmgbemaaGreat
