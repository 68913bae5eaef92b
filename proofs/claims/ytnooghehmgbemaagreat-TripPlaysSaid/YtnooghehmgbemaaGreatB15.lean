/- Trip: the methods' contracts over the trips' state. -/
import Derived.Test.YtnooghehmgbemaaGreatB14
import Derived.Test.YtnooghehmgbemaaGreatB5
namespace Go.Proofs.YtnooghehmgbemaaGreat
open Go.RowKit
set_option linter.unusedVariables false
set_option linter.unusedSimpArgs false

open Classical in
noncomputable def St.assign (q : St) (tick : Int) (k : List Value) : Int × St :=
  if atE tick q.clock ≠ 0 then (atE tick q.clock, q)
  else if (∃ t ∈ q.l, t.k = k) ∨ (∃ t ∈ q.l, t.on ∧ t.rider = k.take 8) ∨ (∃ t ∈ q.l, t.on ∧ t.driver = k.drop 8) then (130, q)
  else (0, ⟨tick, q.l ++ [newTr k tick]⟩)
open Classical in
noncomputable def St.find (q : St) (k : List Value) : Option Tr := q.l.find? (fun t => decide (t.k = k))
open Classical in
noncomputable def St.onD (q : St) (d : List Value) : Option Tr := q.l.find? (fun t => decide (t.on ∧ t.driver = d))
noncomputable def St.go (q : St) (tick : Int) (k : List Value) (s : Int) : Int × St :=
  if s < 2 ∨ 5 < s then (1, q)
  else if atE tick q.clock ≠ 0 then (atE tick q.clock, q)
  else match q.find k with
    | none => (131, q)
    | some t => if fol t.s s = true then (0, ⟨tick, q.l.map (turn k s tick)⟩) else (240, q)
def tripV : Option Tr → Value
  | none => .tuple #[.agg Z40, .bool false]
  | some t => .tuple #[.agg t.cells.toArray, .bool true]
theorem find_some {q : St} {k : List Value} {t : Tr} (h : q.find k = some t) : t ∈ q.l ∧ t.k = k := by
  classical
  unfold St.find at h
  have h1 := List.mem_of_find?_eq_some h
  have h2 := List.find?_some h
  exact ⟨h1, of_decide_eq_true h2⟩
theorem find_none {q : St} {k : List Value} (h : q.find k = none) : ∀ t ∈ q.l, t.k ≠ k := by
  classical
  intro t ht e
  have := List.find?_eq_none.1 h t ht
  exact this (decide_eq_true e)
theorem onD_some {q : St} {d : List Value} {t : Tr} (h : q.onD d = some t) : t ∈ q.l ∧ t.on ∧ t.driver = d := by
  classical
  unfold St.onD at h
  have h1 := List.mem_of_find?_eq_some h
  have h2 := List.find?_some h
  exact ⟨h1, of_decide_eq_true h2⟩
theorem onD_none {q : St} {d : List Value} (h : q.onD d = none) : ∀ t ∈ q.l, t.on → t.driver ≠ d := by
  classical
  intro t ht ho e
  have := List.find?_eq_none.1 h t ht
  exact this (decide_eq_true ⟨ho, e⟩)
theorem find_mem {q : St} (hq : q.ok) {t : Tr} (ht : t ∈ q.l) : q.find t.k = some t := by
  cases h : q.find t.k with
  | none => exact (find_none h t ht rfl).elim
  | some u => obtain ⟨h1, h2⟩ := find_some h; rw [hq.uk u h1 t ht h2]
theorem onD_mem {q : St} (hq : q.ok) {t : Tr} (ht : t ∈ q.l) (ho : t.on) : q.onD t.driver = some t := by
  cases h : q.onD t.driver with
  | none => exact (onD_none h t ht ho rfl).elim
  | some u => obtain ⟨h1, h2, h3⟩ := onD_some h; rw [hq.ud u h1 t ht h2 ho h3]
theorem atE_zero {tick clock : Int} (h : atE tick clock = 0) : 0 ≤ tick ∧ tick ≤ 1099511627776 ∧ clock ≤ tick := by
  unfold atE at h
  split at h
  · cases h
  · split at h
    · cases h
    · omega
/-- what one call does to the trips and to the world -/
def Turns (F : Nat → Prop) (tb : Nat) (r : Int × St) (w : World) : Ending → World → Prop := fun e w' => e = .returned (.int .i64 r.1) ∧ ∃ F' : Nat → Prop, TripsAt F' w' tb r.2 ∧ Lies F w w' ∧ ∀ j, F' j → F j ∨ w.heap.size ≤ j
section
variable {F : Nat → Prop} {w : World} {tb : Nat} {q : St}
theorem turns_same (h : TripsAt F w tb q) {e : Ending} {w' : World} {n : Int} (g : Gives (.int .i64 n) w e w') : Turns F tb (n, q) w e w' := by
  obtain ⟨rfl, x, rfl⟩ := g
  exact ⟨rfl, F, h.of_lies (X := fun _ => False) (Lies.of_below x.h) (fun _ _ => id), Lies.of_below x.h, fun _ hj => .inl hj⟩
theorem new_at (w : World) : Calls Tryz.prog 5 #[] w fun e w' => ∃ tb, e = .returned (.pointer (some ⟨tb, 0, none⟩)) ∧ Below w.heap.size w w' ∧ TripsAt (fun j => w.heap.size ≤ j ∧ j < w'.heap.size) w' tb ⟨0, []⟩ := by
  refine (new_ok w).mono ?_
  rintro e w' ⟨rfl, rfl⟩
  have hb : Below w.heap.size w ((((w.alloc (.map #[] 0)).alloc (.map #[] 0)).alloc (.map #[] 0)).alloc (.cells #[.int .i64 0, .slice none 0 0, .map (some w.heap.size), .map (some (w.heap.size + 1)), .map (some (w.heap.size + 2))] 75)) :=
    ((((Below.refl _ w).alloc (Nat.le_refl _) _).alloc (by simp) _).alloc (by simp <;> omega) _).alloc (by simp <;> omega) _
  have mm : ∀ (u : World) (k : TypeId), MapF Tryz.prog (u.alloc (.map #[] 0)) k u.heap.size (fun _ _ => False) := fun u k => MapF.made _ u k
  have up : ∀ (u : World) (o : Obj) (k : TypeId) (b : Nat) (f : Value → Value → Prop), MapF Tryz.prog u k b f → MapF Tryz.prog (u.alloc o) k b f := fun u o k b f h => h.of_block (Below.heap_alloc _ _ _ h.lt)
  refine ⟨_, rfl, hb, ⟨fun k hk => hk.2, ⟨by decide, by decide, by simp, by simp, by simp, by simp⟩, w.heap.size, w.heap.size + 1, w.heap.size + 2, .slice none 0 0, ?_⟩⟩
  have s1 : (w.alloc (.map #[] 0)).heap.size = w.heap.size + 1 := by simp
  have s2 : ((w.alloc (.map #[] 0)).alloc (.map #[] 0)).heap.size = w.heap.size + 2 := by simp
  have s3 : (((w.alloc (.map #[] 0)).alloc (.map #[] 0)).alloc (.map #[] 0)).heap.size = w.heap.size + 3 := by simp
  exact {
    hd := by have := heap_last (((w.alloc (.map #[] 0)).alloc (.map #[] 0)).alloc (.map #[] 0)) (.cells #[.int .i64 0, .slice none 0 0, .map (some w.heap.size), .map (some (w.heap.size + 1)), .map (some (w.heap.size + 2))] 75); rw [s3] at this; exact this
    m1 := (up _ _ _ _ _ (up _ _ _ _ _ (up _ _ _ _ _ (mm w 59)))).congr (fun x v => by simp [f1])
    m2 := (up _ _ _ _ _ (up _ _ _ _ _ (by have := mm (w.alloc (.map #[] 0)) 57; rw [s1] at this; exact this))).congr (fun x v => by simp [f2])
    m3 := (up _ _ _ _ _ (by have := mm ((w.alloc (.map #[] 0)).alloc (.map #[] 0)) 57; rw [s2] at this; exact this)).congr (fun x v => by simp [f3])
    ord := World.ownsRow_nil _ _ _ _
    n12 := by omega
    n13 := by omega
    n23 := by omega
    ft := by simp <;> omega
    fb1 := by simp <;> omega
    fb2 := by simp <;> omega
    fb3 := by simp <;> omega
    fo := fun g hg => by cases hg }
theorem assign_at (h : TripsAt F w tb q) (tick : Int) (k : List Value) (hk : Bs 16 k) (hn : q.l.length ≤ 1048576) : Calls Tryz.prog 14 #[.pointer (some ⟨tb, 0, none⟩), .int .i64 tick, .agg k.toArray] w (Turns F tb (q.assign tick k) w) := by
  classical
  have h0 := h
  obtain ⟨hF, hq, b1, b2, b3, ov, h⟩ := h
  unfold St.assign
  by_cases he : atE tick q.clock = 0
  · rw [if_neg (by simpa using he)]
    obtain ⟨t0, t1, t2⟩ := atE_zero he
    have hkt8 : Bs 8 (k.take 8) := Bs.take (m := 8) hk
    have hkd : Bs 8 (k.drop 8) := Bs.drop (n := 8) hk
    obtain ⟨kl, hkl⟩ := key_j hk
    obtain ⟨klt, hklt⟩ := key_id hkt8
    obtain ⟨kld, hkld⟩ := key_id hkd
    have L1 : ∃ (r : Array Value) (o : Bool), r.size = 23 ∧ r.all (·.oneCell') = true ∧ (o = true ↔ ∃ t ∈ q.l, t.k = k) ∧ ∀ u : World, Below w.heap.size w u → (Instr.lookup 71 (.map (some b1)) (.agg k.toArray) true).run Tryz.prog u = .ok (.tuple #[.agg r, .bool o]) u := by
      by_cases hx : ∃ t ∈ q.l, t.k = k
      · obtain ⟨t, ht, rfl⟩ := hx
        have hto := hq.ok t ht
        exact ⟨t.cells.toArray, true, by rw [List.size_toArray, hto.length], all_oneCell_toArray hto.one, ⟨fun _ => ⟨t, ht, rfl⟩, fun _ => rfl⟩, fun u hu => (h.m1.of_block (hu.block b1 h.m1.lt)).look_some law25 Tryz.underlying71 hkl ⟨t, ht, rfl, rfl⟩ true⟩
      · exact ⟨Z40, false, z40s, z40o, ⟨fun e => (by cases e), fun e => (hx e).elim⟩, fun u hu => (h.m1.of_block (hu.block b1 h.m1.lt)).look_none law25 Tryz.underlying71 ((zero_of_info zero40).1 u) hkl (fun v hv => by obtain ⟨t, ht, e, _⟩ := hv; exact hx ⟨t, ht, (agg_inj.1 e).symm⟩) true⟩
    have L2 : ∃ (r : Array Value) (o : Bool), r.size = 16 ∧ r.all (·.oneCell') = true ∧ (o = true ↔ ∃ t ∈ q.l, t.on ∧ t.rider = k.take 8) ∧ ∀ u : World, Below w.heap.size w u → (Instr.lookup 72 (.map (some b2)) (.agg (k.take 8).toArray) true).run Tryz.prog u = .ok (.tuple #[.agg r, .bool o]) u := by
      by_cases hx : ∃ t ∈ q.l, t.on ∧ t.rider = k.take 8
      · obtain ⟨t, ht, ho, e⟩ := hx
        have hto := hq.ok t ht
        exact ⟨t.k.toArray, true, by rw [List.size_toArray, hto.k.1], all_oneCell_toArray hto.k.one, ⟨fun _ => ⟨t, ht, ho, e⟩, fun _ => rfl⟩, fun u hu => (h.m2.of_block (hu.block b2 h.m2.lt)).look_some law23 Tryz.underlying72 hklt ⟨t, ht, ho, by rw [e], rfl⟩ true⟩
      · exact ⟨Z25, false, z25s, z25o, ⟨fun e => (by cases e), fun e => (hx e).elim⟩, fun u hu => (h.m2.of_block (hu.block b2 h.m2.lt)).look_none law23 Tryz.underlying72 ((zero_of_info zero25).1 u) hklt (fun v hv => by obtain ⟨t, ht, ho, e, _⟩ := hv; exact hx ⟨t, ht, ho, (agg_inj.1 e).symm⟩) true⟩
    have L3 : ∃ (r : Array Value) (o : Bool), r.size = 16 ∧ r.all (·.oneCell') = true ∧ (o = true ↔ ∃ t ∈ q.l, t.on ∧ t.driver = k.drop 8) ∧ ∀ u : World, Below w.heap.size w u → (Instr.lookup 72 (.map (some b3)) (.agg (k.drop 8).toArray) true).run Tryz.prog u = .ok (.tuple #[.agg r, .bool o]) u := by
      by_cases hx : ∃ t ∈ q.l, t.on ∧ t.driver = k.drop 8
      · obtain ⟨t, ht, ho, e⟩ := hx
        have hto := hq.ok t ht
        exact ⟨t.k.toArray, true, by rw [List.size_toArray, hto.k.1], all_oneCell_toArray hto.k.one, ⟨fun _ => ⟨t, ht, ho, e⟩, fun _ => rfl⟩, fun u hu => (h.m3.of_block (hu.block b3 h.m3.lt)).look_some law23 Tryz.underlying72 hkld ⟨t, ht, ho, by rw [e], rfl⟩ true⟩
      · exact ⟨Z25, false, z25s, z25o, ⟨fun e => (by cases e), fun e => (hx e).elim⟩, fun u hu => (h.m3.of_block (hu.block b3 h.m3.lt)).look_none law23 Tryz.underlying72 ((zero_of_info zero25).1 u) hkld (fun v hv => by obtain ⟨t, ht, ho, e, _⟩ := hv; exact hx ⟨t, ht, ho, (agg_inj.1 e).symm⟩) true⟩
    obtain ⟨r1, o1, z1, e1, i1, g1⟩ := L1
    obtain ⟨r2, o2, z2, e2, i2, g2⟩ := L2
    obtain ⟨r3, o3, z3, e3, i3, g3⟩ := L3
    by_cases hx : (∃ t ∈ q.l, t.k = k) ∨ (∃ t ∈ q.l, t.on ∧ t.rider = k.take 8) ∨ (∃ t ∈ q.l, t.on ∧ t.driver = k.drop 8)
    · rw [if_pos hx]
      refine (assign_twice h tick k hk he r1 r2 r3 o1 o2 o3 z1 z2 z3 e1 e2 e3 (Lib.hid g1) (Lib.hid g2) (Lib.hid g3) ?_).mono (fun e w' g => turns_same h0 g)
      rw [← i1, ← i2, ← i3] at hx
      revert hx; cases o1 <;> cases o2 <;> cases o3 <;> simp
    · rw [if_neg hx]
      have n1 : ¬ ∃ t ∈ q.l, t.k = k := fun e => hx (.inl e)
      have n2 : ¬ ∃ t ∈ q.l, t.on ∧ t.rider = k.take 8 := fun e => hx (.inr (.inl e))
      have n3 : ¬ ∃ t ∈ q.l, t.on ∧ t.driver = k.drop 8 := fun e => hx (.inr (.inr e))
      have m1 : ∀ t ∈ q.l, t.k ≠ k := fun t ht e => n1 ⟨t, ht, e⟩
      have m2 : ∀ t ∈ q.l, t.on → t.rider ≠ k.take 8 := fun t ht ho e => n2 ⟨t, ht, ho, e⟩
      have m3 : ∀ t ∈ q.l, t.on → t.driver ≠ k.drop 8 := fun t ht ho e => n3 ⟨t, ht, ho, e⟩
      refine (assign_new h hF tick k hk he r1 r2 r3 o1 o2 o3 z1 z2 z3 e1 e2 e3 (Lib.hid g1) (Lib.hid g2) (Lib.hid g3) (Bool.eq_false_iff.2 (fun e => n1 (i1.1 e))) (Bool.eq_false_iff.2 (fun e => n2 (i2.1 e))) (Bool.eq_false_iff.2 (fun e => n3 (i3.1 e))) (Lib.hid m1) (Lib.hid m2) (Lib.hid m3) (Lib.hid hn)).mono ?_
      rintro e w' ⟨rfl, F', ov', g1, g2, g3, g4⟩
      exact ⟨rfl, F', ⟨g3, hq.push hk t0 t1 m1 m2 m3, b1, b2, b3, ov', g4⟩, g1, g2⟩
  · rw [if_pos he]
    exact (assign_err h tick k hk he).mono (fun e w' g => turns_same h0 g)
theorem go_at (h : TripsAt F w tb q) (tick s : Int) (k : List Value) (hk : Bs 16 k) : Calls Tryz.prog 16 #[.pointer (some ⟨tb, 0, none⟩), .int .i64 tick, .agg k.toArray, .int .u8 s] w (Turns F tb (q.go tick k s) w) := by
  have h0 := h
  obtain ⟨hF, hq, b1, b2, b3, ov, h⟩ := h
  unfold St.go
  by_cases hs : s < 2 ∨ 5 < s
  · rw [if_pos hs]
    exact (go_arg h tick s k hk hs).mono (fun e w' g => turns_same h0 g)
  rw [if_neg hs]
  have h2 : ¬ s < 2 := fun e => hs (.inl e)
  have h5 : ¬ 5 < s := fun e => hs (.inr e)
  by_cases he : atE tick q.clock = 0
  · rw [if_neg (by simpa using he)]
    obtain ⟨t0, t1, t2⟩ := atE_zero he
    cases hf : q.find k with
    | none => exact (go_gone h tick s k hk h2 h5 he (find_none hf)).mono (fun e w' g => turns_same h0 g)
    | some t =>
      obtain ⟨ht, hkt⟩ := find_some hf
      show Calls _ _ _ _ (Turns F tb (if fol t.s s = true then (0, ⟨tick, q.l.map (turn k s tick)⟩) else (240, q)) w)
      by_cases hfo : fol t.s s = true
      · rw [if_pos hfo]
        refine (go_ok h hq hF tick s k hk he t ht hkt hfo).mono ?_
        rintro e w' ⟨rfl, g1, g2⟩
        have ⟨hw, hs'⟩ := fol_on hfo
        refine ⟨rfl, F, ⟨fun j hj => Nat.lt_of_lt_of_le (hF j hj) g1.size, St.ok.turn hq ht hkt (by unfold Tr.on; omega) ?_ t2 t0 t1, b1, b2, b3, ov, g2⟩, g1, fun j hj => .inl hj⟩
        rcases hs' with rfl | rfl | rfl | rfl <;> decide
      · rw [if_neg hfo]
        exact (go_state h tick s k hk h2 h5 he hq.ok t ht hkt (by simpa using hfo)).mono (fun e w' g => turns_same h0 g)
  · rw [if_pos he]
    exact (go_err h tick s k hk h2 h5 he).mono (fun e w' g => turns_same h0 g)
theorem get_ok (h : TripsAt F w tb q) (k : List Value) (hk : Bs 16 k) : Calls Tryz.prog 18 #[.pointer (some ⟨tb, 0, none⟩), .agg k.toArray] w (Gives (tripV (q.find k)) w) := by
  obtain ⟨hF, hq, b1, b2, b3, ov, h⟩ := h
  obtain ⟨kl, hkl⟩ := key_j hk
  cases hf : q.find k with
  | none => exact get_at tb _ k hk Z40 false w h.c.2.2.1 z40s z40o fun u hu => (h.m1.of_block (hu.block b1 h.m1.lt)).look_none law25 Tryz.underlying71 ((zero_of_info zero40).1 u) hkl (fun v hv => by obtain ⟨t, ht, e, _⟩ := hv; exact find_none hf t ht (agg_inj.1 e).symm) true
  | some t =>
    obtain ⟨ht, rfl⟩ := find_some hf
    have hto := hq.ok t ht
    exact get_at tb _ _ hk t.cells.toArray true w h.c.2.2.1 (by rw [List.size_toArray, hto.length]) (all_oneCell_toArray hto.one) fun u hu => (h.m1.of_block (hu.block b1 h.m1.lt)).look_some law25 Tryz.underlying71 hkl ⟨t, ht, rfl, rfl⟩ true
theorem of_ok (h : TripsAt F w tb q) (d : List Value) (hd : Bs 8 d) : Calls Tryz.prog 20 #[.pointer (some ⟨tb, 0, none⟩), .agg d.toArray] w (Gives (tripV (q.onD d)) w) := by
  obtain ⟨hF, hq, b1, b2, b3, ov, h⟩ := h
  obtain ⟨kl, hkl⟩ := key_id hd
  cases hf : q.onD d with
  | none => exact of_miss tb _ d hd w h.c.2.2.2.2 fun u hu => (h.m3.of_block (hu.block b3 h.m3.lt)).look_none law23 Tryz.underlying72 ((zero_of_info zero25).1 u) hkl (fun v hv => by obtain ⟨t, ht, ho, e, _⟩ := hv; exact onD_none hf t ht ho (agg_inj.1 e).symm) true
  | some t =>
    obtain ⟨ht, ho, rfl⟩ := onD_some hf
    have hto := hq.ok t ht
    obtain ⟨kj, hkj⟩ := key_j hto.k
    exact of_hit tb _ _ _ t.k hd hto.k t.cells.toArray w h.c.2.2.2.2 h.c.2.2.1 (by rw [List.size_toArray, hto.length]) (all_oneCell_toArray hto.one)
      (fun u hu => (h.m3.of_block (hu.block b3 h.m3.lt)).look_some law23 Tryz.underlying72 hkl ⟨t, ht, ho, rfl, rfl⟩ true)
      (fun u hu => (h.m1.of_block (hu.block b1 h.m1.lt)).look_some law25 Tryz.underlying71 hkj ⟨t, ht, rfl, rfl⟩ false)
theorem list_ok (h : TripsAt F w tb q) (hn : q.l.length ≤ 1048576) : Calls Tryz.prog 8 #[.pointer (some ⟨tb, 0, none⟩)] w fun e w' => ∃ v, e = .returned v ∧ Below w.heap.size w w' ∧ w'.ownsRow w.heap.size 83 23 v q.l.length ((q.l.map Tr.cells).flatMap id) := by
  obtain ⟨hF, hq, b1, b2, b3, ov, h⟩ := h
  refine list_at tb _ ov 0 q.l.length (q.l.map Tr.k) (q.l.map Tr.cells) w h.c.2.1 h.c.2.2.1 h.ord (by simp) (by simp) ?_ ?_ hn ?_
  · intro k hk; obtain ⟨t, ht, rfl⟩ := List.mem_map.1 hk; exact (hq.ok t ht).k
  · intro r hr; obtain ⟨t, ht, rfl⟩ := List.mem_map.1 hr; exact ⟨(hq.ok t ht).length, (hq.ok t ht).one⟩
  · intro j k r hj hr u hu
    rw [List.getElem?_map] at hj hr
    cases ht : q.l[j]? with
    | none => rw [ht] at hj; cases hj
    | some t =>
      rw [ht] at hj hr
      simp only [Option.map_some, Option.some.injEq] at hj hr
      subst hj hr
      have hm := List.mem_of_getElem? ht
      obtain ⟨kl, hkl⟩ := key_j (hq.ok t hm).k
      exact (h.m1.of_block (hu.block b1 h.m1.lt)).look_some law25 Tryz.underlying71 hkl ⟨t, hm, rfl, rfl⟩ false
end
end Go.Proofs.YtnooghehmgbemaaGreat
