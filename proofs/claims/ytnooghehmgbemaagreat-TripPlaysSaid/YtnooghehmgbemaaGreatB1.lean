/- Trip, base: worlds that grow; maps as functions from keys to values. -/
import Derived.Test.YtnooghehmgbemaaGreatRows
import Derived.WalkKit
import Derived.WalkSpells
import Derived.WalkLawsBesides
import Derived.Deep.QuietTactic
import Derived.BigQuiet
import Derived.Maps.Own
import Derived.Deep.WholeRow
import Derived.Deep.MidRow
import Derived.DeepKeys4
import Derived.WideKeyEntry
namespace Go.Proofs.YtnooghehmgbemaaGreat
open Go.RowKit

/-- A world in which all that lay below B in w lies as it lay. -/
structure BW (B : Nat) (w : World) where
  i : World
  h : Below B w i

instance {B : Nat} {w : World} : Nonempty (BW B w) := ⟨⟨w, Below.refl _ _⟩⟩
def BW.refl (B : Nat) (w : World) : BW B w := ⟨w, Below.refl _ _⟩

theorem BW.cell {B : Nat} {w : World} (x : BW B w) {p : Addr} (hp : p.block < B) : x.i.cell? p = w.cell? p := x.h.cell hp
theorem BW.frozen {B : Nat} {w : World} (x : BW B w) {p : Addr} (hp : p.block < B) : x.i.frozen? p = w.frozen? p := x.h.frozen hp
theorem BW.size {B : Nat} {w : World} (x : BW B w) : w.heap.size ≤ x.i.heap.size := x.h.size
def BW.up {B : Nat} {w : World} (x : BW B w) (y : BW x.i.heap.size x.i) (hB : B ≤ w.heap.size) : BW B w :=
  ⟨y.i, x.h.trans (y.h.mono (Nat.le_trans hB x.h.size))⟩
@[go_sem] theorem BW.up_i {B : Nat} {w : World} (x : BW B w) (y : BW x.i.heap.size x.i) (hB : B ≤ w.heap.size) : (x.up y hB).i = y.i := rfl

/-- The call returns v, and what was there lies as it lay. -/
def Gives (v : Value) (w : World) : Ending → World → Prop := fun e w' => e = .returned v ∧ ∃ x : BW w.heap.size w, w' = x.i

theorem gives_same {v : Value} {w : World} : Gives v w (.returned v) w := ⟨rfl, BW.refl _ _, rfl⟩
theorem gives_of {v : Value} {w w' : World} (h : Below w.heap.size w w') : Gives v w (.returned v) w' := ⟨rfl, ⟨w', h⟩, rfl⟩
theorem gives_of_eq {u v : Value} {w w' : World} (e : u = v) (h : Below w.heap.size w w') : Gives v w (.returned u) w' := by subst e; exact gives_of h

/-- The call returns v and leaves the world alone. -/
def Keeps (v : Value) (w : World) : Ending → World → Prop := fun e w' => e = .returned v ∧ w = w'
theorem keeps_eq {u v : Value} {w : World} (e : u = v) : Keeps v w (.returned u) w := by subst e; exact ⟨rfl, rfl⟩

theorem Calls.bw_of {P : Program} {f : FuncId} {args : Array Value} {B : Nat} {w : World} {x : BW B w} {v : Value} (hB : B ≤ w.heap.size)
    (h : Calls P f args x.i (Gives v x.i)) : Calls P f args x.i fun e w'' => e = .returned v ∧ ∃ y : BW B w, w'' = y.i :=
  h.mono fun _ _ ⟨he, y, hy⟩ => ⟨he, x.up y hB, hy⟩

theorem Calls.bw_same {P : Program} {f : FuncId} {args : Array Value} {B : Nat} {w : World} {x : BW B w} {v : Value}
    (h : Calls P f args x.i (Keeps v x.i)) : Calls P f args x.i fun e w'' => e = .returned v ∧ ∃ y : BW B w, w'' = y.i :=
  h.mono fun _ _ ⟨he, hy⟩ => ⟨he, x, hy.symm⟩

/-- A region that draws its order, its operations reading and its calls only making memory: one walk. -/
theorem wp_region_bw {P : Program} {id : Nat} {Q : Exit → Act → World → Prop} {a : Act} {w : World} {l : List Oper} (B : Nat) (W : World) (hw : Below B W w) (hm : P.follows .mixedOrders = true) (hB : Region.lexB .any l.toArray = true)
    (h : wpQuiet P l.toArray (fun w' => ∃ x : BW B W, w' = x.i) (fun a' => ∀ x : BW B W, Q .normal a' x.i) l a) : (Code.region id l.toArray true).wp P Q a w :=
  wp_region_quiet (C := fun w' => ∃ x : BW B W, w' = x.i) hm hB ⟨⟨{ w with drawn := w.drawn + 1 }, hw.drew⟩, rfl⟩
    (by
      have e : (fun a' => ∀ w', (∃ x : BW B W, w' = x.i) → Q .normal a' w') = fun a' => ∀ x : BW B W, Q .normal a' x.i := by
        funext a'
        exact propext ⟨fun h x => h _ ⟨x, rfl⟩, fun h w' ⟨x, hx⟩ => hx ▸ h x⟩
      rw [e]
      simpa using h)
theorem Calls.bw_at {P : Program} {f : FuncId} {args : Array Value} {B : Nat} {W w : World} {v : Value} (hw : Below B W w) (hB : B ≤ w.heap.size)
    (h : Calls P f args w (Gives v w)) : Calls P f args w fun e w'' => e = .returned v ∧ ∃ y : BW B W, w'' = y.i :=
  h.mono fun _ _ ⟨he, y, hy⟩ => ⟨he, ⟨y.i, hw.trans (y.h.mono hB)⟩, hy⟩

theorem Calls.bw_at_same {P : Program} {f : FuncId} {args : Array Value} {B : Nat} {W w : World} {v : Value} (hw : Below B W w)
    (h : Calls P f args w (Keeps v w)) : Calls P f args w fun e w'' => e = .returned v ∧ ∃ y : BW B W, w'' = y.i :=
  h.mono fun _ _ ⟨he, hy⟩ => ⟨he, ⟨w, hw⟩, hy.symm⟩


/-! ### maps -/
section
open Go.ChangeMaps Go.MapKept Go.Maps
variable {P : Program} {w w' : World} {k : TypeId} {b : Nat} {f : Value → Value → Prop}
/-- block b is a map in which key x has value v, if f x v -/
def MapF (P : Program) (w : World) (k : TypeId) (b : Nat) (f : Value → Value → Prop) : Prop :=
  ∃ es clock, w.heap[b]? = some (.map es clock) ∧ Stamped es clock ∧ (∀ e ∈ es.toList, ∃ l, keyOf P k e.key = some l) ∧ ∀ x v, f x v ↔ ∃ e ∈ es.toList, e.key = x ∧ e.val = v
theorem MapF.lt (h : MapF P w k b f) : b < w.heap.size := by
  obtain ⟨es, clock, hb, _⟩ := h
  exact (Array.getElem?_eq_some_iff.1 hb).1
theorem MapF.of_block (h : MapF P w k b f) (e : w'.heap[b]? = w.heap[b]?) : MapF P w' k b f := by
  obtain ⟨es, clock, hb, r⟩ := h
  exact ⟨es, clock, e.trans hb, r⟩
theorem MapF.made (P : Program) (w : World) (k : TypeId) : MapF P (w.alloc (.map #[] 0)) k w.heap.size (fun _ _ => False) :=
  ⟨#[], 0, (MapKept.heap_alloc w _).1, stamped_empty 0, by simp, by simp⟩
theorem MapF.look_none {t e : TypeId} (h : MapF P w k b f) (K : Keyed P k) (ht : P.underlying t = some (.map k e)) {z : Value} (hz : (zeroValue e).run P w = .ok z w) {key : Value} {kl : Lit} (hkey : keyOf P k key = some kl) (hno : ∀ v, ¬ f key v) (ok : Bool) :
    (Instr.lookup t (.map (some b)) key ok).run P w = .ok (if ok then .tuple #[z, .bool false] else z) w := by
  obtain ⟨es, clock, hb, hs, hk, hf⟩ := h
  rcases K.find w hkey es.toList hk with ⟨h1, h2⟩ | ⟨j, e0, h1, h2, h3⟩
  · cases ok <;> simp [Instr.lookup, run_underlying ht, MapKept.run_getObj_map hb, K.check w _ hkey, h1, hz, Result.andThen]
  · exact (hno e0.val ((hf key e0.val).2 ⟨e0, List.mem_of_getElem? h2, h3, rfl⟩)).elim
theorem key_uniq {es : Array MapEntry} {clock : Nat} (hs : Stamped es clock) {i j : Nat} {x y : MapEntry} (hx : es.toList[i]? = some x) (hy : es.toList[j]? = some y) (h : x.key = y.key) : i = j := by
  have hn := ((stamped_iff es clock).1 hs).2.2
  rw [List.pairwise_iff_getElem] at hn
  obtain ⟨hi, hx'⟩ := List.getElem?_eq_some_iff.1 hx
  obtain ⟨hj, hy'⟩ := List.getElem?_eq_some_iff.1 hy
  rcases Nat.lt_trichotomy i j with hlt | he | hlt
  · exact (hn i j hi hj hlt (by rw [hx', hy', h])).elim
  · exact he
  · exact (hn j i hj hi hlt (by rw [hx', hy', h])).elim
theorem MapF.look_some {t e : TypeId} (h : MapF P w k b f) (K : Keyed P k) (ht : P.underlying t = some (.map k e)) {key v : Value} {kl : Lit} (hkey : keyOf P k key = some kl) (hv : f key v) (ok : Bool) :
    (Instr.lookup t (.map (some b)) key ok).run P w = .ok (if ok then .tuple #[v, .bool true] else v) w := by
  obtain ⟨es, clock, hb, hs, hk, hf⟩ := h
  obtain ⟨e1, he1, hk1, hv1⟩ := (hf key v).1 hv
  rcases K.find w hkey es.toList hk with ⟨h1, h2⟩ | ⟨j, e0, h1, h2, h3⟩
  · exact (h2 e1 he1 hk1).elim
  · obtain ⟨i, hi⟩ := List.mem_iff_getElem?.1 he1
    have := key_uniq hs hi h2 (by rw [hk1, h3])
    subst this
    rw [h2] at hi; cases hi
    rw [← hv1]
    cases ok <;> simp [Instr.lookup, run_underlying ht, MapKept.run_getObj_map hb, K.check w _ hkey, h1, Result.andThen]
theorem MapF.uniq (h : MapF P w k b f) {x v v' : Value} (h1 : f x v) (h2 : f x v') : v = v' := by
  obtain ⟨es, clock, hb, hs, hk, hf⟩ := h
  obtain ⟨a, ha, a1, a2⟩ := (hf x v).1 h1
  obtain ⟨c, hc, c1, c2⟩ := (hf x v').1 h2
  obtain ⟨i, hi⟩ := List.mem_iff_getElem?.1 ha
  obtain ⟨j, hj⟩ := List.mem_iff_getElem?.1 hc
  have := key_uniq hs hi hj (by rw [a1, c1])
  subst this
  rw [hi] at hj; cases hj
  rw [← a2, c2]
/-- in no map there is nothing -/
theorem run_lookup_nil {t e : TypeId} (K : Keyed P k) (ht : P.underlying t = some (.map k e)) {z : Value} (hz : (zeroValue e).run P w = .ok z w) {key : Value} {kl : Lit} (hkey : keyOf P k key = some kl) (ok : Bool) :
    (Instr.lookup t (.map none) key ok).run P w = .ok (if ok then .tuple #[z, .bool false] else z) w := by
  rcases K.find w hkey [] (by simp) with ⟨h1, h2⟩ | ⟨j, e0, h1, h2, h3⟩
  · cases ok <;> simp [Instr.lookup, run_underlying ht, K.check w _ hkey, h1, hz, Result.andThen]
  · simp at h2
def putF (f : Value → Value → Prop) (key val : Value) : Value → Value → Prop := fun x v => (x = key ∧ v = val) ∨ (x ≠ key ∧ f x v)
def delF (f : Value → Value → Prop) (key : Value) : Value → Value → Prop := fun x v => x ≠ key ∧ f x v
theorem setBlock_grown {w : World} {b : Nat} {es : Array MapEntry} {clock : Nat} (hb : w.heap[b]? = some (.map es clock)) (o : Obj) : w.grownBy (setBlock w b o) (some b) :=
  ⟨rfl, rfl, rfl, by simp [setBlock], fun i _ hi => heap_setBlock_other hb _ (fun e => hi (by rw [e]))⟩
theorem mem_push {es : Array MapEntry} {x : MapEntry} {e : MapEntry} : e ∈ (es.push x).toList ↔ e ∈ es.toList ∨ e = x := by simp
theorem push_fun {es : Array MapEntry} {clock : Nat} {key val : Value} (hf : ∀ x v, f x v ↔ ∃ e ∈ es.toList, e.key = x ∧ e.val = v) (hno : ∀ e ∈ es.toList, e.key ≠ key) :
    ∀ x v, putF f key val x v ↔ ∃ e ∈ (es.push ⟨key, val, clock⟩).toList, e.key = x ∧ e.val = v := by
  intro x v
  constructor
  · rintro (⟨rfl, rfl⟩ | ⟨_, h⟩)
    · exact ⟨_, mem_push.2 (.inr rfl), rfl, rfl⟩
    · obtain ⟨e, he, h'⟩ := (hf x v).1 h
      exact ⟨e, mem_push.2 (.inl he), h'⟩
  · rintro ⟨e, he, h1, h2⟩
    rcases mem_push.1 he with h | rfl
    · exact .inr ⟨fun e' => hno e h (h1.trans e'), (hf x v).2 ⟨e, h, h1, h2⟩⟩
    · exact .inl ⟨h1.symm, h2.symm⟩
/-- m[key] = val -/
theorem MapF.update {t e : TypeId} (h : MapF P w k b f) (K : Keyed P k) (ht : P.underlying t = some (.map k e)) {key val : Value} {kl : Lit} (hkey : keyOf P k key = some kl) :
    ∃ w', (Instr.mapUpdate t (.map (some b)) key val).run P w = .ok () w' ∧ MapF P w' k b (putF f key val) ∧ w.grownBy w' (some b) := by
  obtain ⟨es, clock, hb, hs, hk, hf⟩ := h
  rcases K.find w hkey es.toList hk with ⟨h1, h2⟩ | ⟨j, e0, h1, h2, h3⟩
  · refine ⟨setBlock w b (.map (es.push ⟨key, val, clock⟩) (clock + 1)), ?_, ⟨_, _, heap_setBlock_same hb _, stamped_push hs h2, ?_, push_fun hf h2⟩, setBlock_grown hb _⟩
    · simp [Instr.mapUpdate, run_underlying ht, MapKept.run_getObj_map hb, K.check w false hkey, h1, MapKept.run_setObj_map _ hb, Result.andThen, setBlock]
    · intro x hx
      rcases mem_push.1 hx with h | rfl
      · exact hk x h
      · exact ⟨kl, hkey⟩
  · have hj : es[j]? = some e0 := by simpa using h2
    refine ⟨setBlock w b (.map (es.modify j (fun e' => { e' with key := key, val := val })) clock), ?_, ⟨_, _, heap_setBlock_same hb _, stamped_modify hs j _ (fun _ _ => rfl) (fun x _ hx => ?_), ?_, ?_⟩, setBlock_grown hb _⟩
    · simp [Instr.mapUpdate, run_underlying ht, MapKept.run_getObj_map hb, K.check w false hkey, h1, hj, h3, K.stays w hkey, MapKept.run_setObj_map _ hb, Result.andThen, setBlock]
    · rw [hj] at hx; cases hx; exact h3.symm
    all_goals
      have hset : (es.modify j (fun e' => { e' with key := key, val := val })).toList = es.toList.set j { e0 with key := key, val := val } := by
        rw [Array.toList_modify, modify_eq_set _ _ _ _ h2]
      rw [hset]
    · intro x hx
      rcases List.mem_or_eq_of_mem_set hx with h | rfl
      · exact hk x h
      · exact ⟨kl, hkey⟩
    · have hjl : j < es.toList.length := (List.getElem?_eq_some_iff.1 h2).1
      intro x v
      constructor
      · rintro (⟨rfl, rfl⟩ | ⟨hx, h⟩)
        · exact ⟨_, List.mem_of_getElem? (i := j) (by rw [List.getElem?_set, if_pos rfl, if_pos hjl]), rfl, rfl⟩
        · obtain ⟨e, he, h1', h2'⟩ := (hf x v).1 h
          obtain ⟨i, hi⟩ := List.mem_iff_getElem?.1 he
          have hij : j ≠ i := fun e' => by subst e'; rw [h2] at hi; cases hi; exact hx (h1'.symm.trans h3)
          exact ⟨e, List.mem_of_getElem? (i := i) (by rw [List.getElem?_set, if_neg hij]; exact hi), h1', h2'⟩
      · rintro ⟨e, he, h1', h2'⟩
        obtain ⟨i, hi⟩ := List.mem_iff_getElem?.1 he
        rw [List.getElem?_set] at hi
        by_cases hij : j = i
        · rw [if_pos hij] at hi
          subst hij
          rw [if_pos hjl] at hi; cases hi
          exact .inl ⟨h1'.symm, h2'.symm⟩
        · rw [if_neg hij] at hi
          refine .inr ⟨fun e' => hij (key_uniq hs hi h2 (by rw [h1', e', h3])).symm, (hf x v).2 ⟨e, List.mem_of_getElem? hi, h1', h2'⟩⟩
/-- m[key], at a key that isn't there, as the first of several: the entry is made; then its value is laid in -/
theorem MapF.entry {t e : TypeId} (h : MapF P w k b f) (K : Keyed P k) (ht : P.underlying t = some (.map k e)) {z : Value} (hz : ∀ u : World, (zeroValue e).run P u = .ok z u) {key : Value} {kl : Lit} (hkey : keyOf P k key = some kl) (hno : ∀ v, ¬ f key v) :
    ∃ (st : Nat) (w1 : World), (Instr.mapEntry t (.map (some b)) key).run P w = .ok (.tuple #[z, goInt st]) w1 ∧ w.grownBy w1 (some b) ∧
      ∀ (w2 : World) (val : Value), w2.heap[b]? = w1.heap[b]? → ∃ w3, (Instr.entryStore t (.map (some b)) (goInt st) val).run P w2 = .ok () w3 ∧ MapF P w3 k b (putF f key val) ∧ w2.grownBy w3 (some b) := by
  obtain ⟨es, clock, hb, hs, hk, hf⟩ := h
  have h2 : ∀ e ∈ es.toList, e.key ≠ key := fun x hx hxk => by
    exact hno x.val ((hf key x.val).2 ⟨x, hx, hxk, rfl⟩)
  rcases K.find w hkey es.toList hk with ⟨h1, _⟩ | ⟨j, e0, _, h3, h4⟩
  · refine ⟨clock, setBlock w b (.map (es.push ⟨key, z, clock⟩) (clock + 1)), ?_, setBlock_grown hb _, fun w2 val hw2' => ?_⟩
    · simp [Instr.mapEntry, run_underlying ht, MapKept.run_getObj_map hb, K.check w false hkey, h1, hz, MapKept.run_setObj_map _ hb, Result.andThen, setBlock]
    have hw2 : w2.heap[b]? = some (.map (es.push ⟨key, z, clock⟩) (clock + 1)) := hw2'.trans (heap_setBlock_same hb _)
    have hidx : (es.push ⟨key, z, clock⟩).findIdx? (fun e => ((e.born : Nat) : Int) == ((clock : Nat) : Int)) = some es.size := by
      rw [WideElems.findIdx_arr]
      have := WideElems.findIdx_born (l := (es.push ⟨key, z, clock⟩).toList) (j := es.size) (e0 := ⟨key, z, clock⟩) (stamped_push hs h2 (val := z)).2.1 (by simp)
      exact this
    have hmod : (es.push ⟨key, z, clock⟩).modify es.size (fun e => { e with val := val }) = es.push ⟨key, val, clock⟩ := by
      apply Array.ext'
      rw [Array.toList_modify, Array.toList_push, Array.toList_push, ← Array.length_toList, WideElems.modify_last]
    refine ⟨setBlock w2 b (.map (es.push ⟨key, val, clock⟩) (clock + 1)), ?_, ⟨_, _, heap_setBlock_same hw2 _, stamped_push hs h2, ?_, push_fun hf h2⟩, setBlock_grown hw2 _⟩
    · simp [Instr.entryStore, MapKept.run_getObj_map hw2, asInt, asIntOf, goInt, hidx, hmod, MapKept.run_setObj_map _ hw2, Result.andThen, setBlock]
    · intro x hx
      rcases mem_push.1 hx with h | rfl
      · exact hk x h
      · exact ⟨kl, hkey⟩
  · exact (h2 e0 (List.mem_of_getElem? h3) h4).elim
/-- delete(m, key) -/
theorem MapF.delete {t e : TypeId} (h : MapF P w k b f) (K : Keyed P k) (ht : P.underlying t = some (.map k e)) {key : Value} {kl : Lit} (hkey : keyOf P k key = some kl) (ts : Array TypeId) (ty : TypeId) (hts : ts[0]? = some t) :
    ∃ w', (Builtin.delete_ ts ty #[.map (some b), key]).run P w = .ok (.tuple #[]) w' ∧ MapF P w' k b (delF f key) ∧ w.grownBy w' (some b) := by
  obtain ⟨es, clock, hb, hs, hk, hf⟩ := h
  rcases K.find w hkey es.toList hk with ⟨h1, h2⟩ | ⟨j, e0, h1, h2, h3⟩
  · refine ⟨setBlock w b (.map es clock), ?_, ⟨_, _, heap_setBlock_same hb _, hs, hk, fun x v => ?_⟩, setBlock_grown hb _⟩
    · simp [Builtin.delete_, hts, run_underlying ht, MapKept.run_getObj_map hb, K.check w _ hkey, h1, MapKept.run_setObj_map _ hb, Result.andThen, setBlock]
    · constructor
      · rintro ⟨_, h⟩; exact (hf x v).1 h
      · rintro ⟨e, he, h1', h2'⟩; exact ⟨fun e' => h2 e he (h1'.trans e'), (hf x v).2 ⟨e, he, h1', h2'⟩⟩
  · have hj : es[j]? = some e0 := by simpa using h2
    refine ⟨setBlock w b (.map (es.eraseIdxIfInBounds j) clock), ?_, ⟨_, _, heap_setBlock_same hb _, stamped_erase hs j, ?_, ?_⟩, setBlock_grown hb _⟩
    · simp [Builtin.delete_, hts, run_underlying ht, MapKept.run_getObj_map hb, K.check w _ hkey, h1, MapKept.run_setObj_map _ hb, Result.andThen, setBlock]
    all_goals
      have hjl : j < es.size := (Array.getElem?_eq_some_iff.1 hj).1
      have hset : (es.eraseIdxIfInBounds j).toList = es.toList.eraseIdx j := by
        unfold Array.eraseIdxIfInBounds
        rw [dif_pos hjl]; simp
      rw [hset]
    · intro x hx
      exact hk x (List.mem_of_mem_eraseIdx hx)
    · intro x v
      constructor
      · rintro ⟨hx, h⟩
        obtain ⟨e, he, h1', h2'⟩ := (hf x v).1 h
        obtain ⟨i, hi⟩ := List.mem_iff_getElem?.1 he
        have hij : i ≠ j := fun e' => by subst e'; rw [h2] at hi; cases hi; exact hx (h1'.symm.trans h3)
        exact ⟨e, List.mem_eraseIdx_iff_getElem?.2 ⟨i, hij, hi⟩, h1', h2'⟩
      · rintro ⟨e, he, h1', h2'⟩
        obtain ⟨i, hij, hi⟩ := List.mem_eraseIdx_iff_getElem?.1 he
        exact ⟨fun e' => hij (key_uniq hs hi h2 (by rw [h1', e', h3])), (hf x v).2 ⟨e, List.mem_of_getElem? hi, h1', h2'⟩⟩
end
end Go.Proofs.YtnooghehmgbemaaGreat
