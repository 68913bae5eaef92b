/- Trip, base: bytes, journeys, trips as lists of cells; they read as keys; comparing them. -/
import Derived.Test.YtnooghehmgbemaaGreatB1
namespace Go.Proofs.YtnooghehmgbemaaGreat
open Go.RowKit
set_option linter.unusedVariables false

theorem Tryz.laidOut : laidOutB Tryz.prog = true := by kernel_rfl
theorem law23 : Maps.Keyed Tryz.prog 57 := Maps.Keyed.of_law (deep_law_laid Tryz.laidOut (m := 2) (by omega) (of_decide_eq_true (by kernel_rfl)) (by kernel_rfl) (by kernel_rfl))
theorem law25 : Maps.Keyed Tryz.prog 59 := Maps.Keyed.of_law (deep_law_laid Tryz.laidOut (m := 3) (by omega) (of_decide_eq_true (by kernel_rfl)) (by kernel_rfl) (by kernel_rfl))
theorem law40 : Maps.Keyed Tryz.prog 83 := Maps.Keyed.of_law (deep_law_laid Tryz.laidOut (m := 4) (by omega) (of_decide_eq_true (by kernel_rfl)) (by kernel_rfl) (by kernel_rfl))

/-- bytes -/
def Bs (n : Nat) (k : List Value) : Prop := k.length = n ∧ ∀ u ∈ k, ∃ b : Int, u = .int .u8 b ∧ (Lit.int .u8 b).wf = true
/-- ints -/
def Is (n : Nat) (k : List Value) : Prop := k.length = n ∧ ∀ u ∈ k, ∃ b : Int, u = .int .i64 b ∧ (Lit.int .i64 b).wf = true
/-- a trip's cells -/
structure IsT (k : List Value) (s : Value) (ts : List Value) : Prop where
  k : Bs 16 k
  s : Bs 1 [s]
  ts : Is 6 ts
theorem Bs.take {n m : Nat} {k : List Value} (h : Bs (n + m) k) : Bs n (k.take n) := ⟨by rw [List.length_take, h.1]; omega, fun u hu => h.2 u (List.mem_of_mem_take hu)⟩
theorem Bs.drop {n m : Nat} {k : List Value} (h : Bs (n + m) k) : Bs m (k.drop n) := ⟨by rw [List.length_drop, h.1]; omega, fun u hu => h.2 u (List.mem_of_mem_drop hu)⟩
theorem Bs.one {n : Nat} {k : List Value} (h : Bs n k) : ∀ u ∈ k, u.oneCell' = true := fun u hu => by obtain ⟨b, rfl, _⟩ := h.2 u hu; rfl
theorem Is.one {n : Nat} {k : List Value} (h : Is n k) : ∀ u ∈ k, u.oneCell' = true := fun u hu => by obtain ⟨b, rfl, _⟩ := h.2 u hu; rfl

theorem mapM_some {α β : Type} {f : α → Option β} : ∀ (l : List α), (∀ x ∈ l, ∃ y, f x = some y) → ∃ ys, l.mapM f = some ys
  | [], _ => ⟨[], by simp⟩
  | x :: r, h => by
    obtain ⟨y, hy⟩ := h x (List.mem_cons_self ..)
    obtain ⟨ys, hys⟩ := mapM_some r (fun z hz => h z (List.mem_cons_of_mem _ hz))
    exact ⟨y :: ys, by simp [List.mapM_cons, hy, hys]⟩
theorem take_one {k : List Value} {i : Nat} {u : Value} (h : k[i]? = some u) : (k.drop i).take 1 = [u] := by
  obtain ⟨hi, rfl⟩ := List.getElem?_eq_some_iff.1 h
  rw [List.drop_eq_getElem_cons hi]; rfl
theorem lits_arr {P : Program} {d : Nat} {t e : TypeId} {n : Nat} {q : IntKind} {cs : List Value} (hu : P.underlying t = some (.array n e)) (he : P.underlying e = some (.int q)) (h1 : P.cellsOf e = 1) (hn : P.cellsOf t = n) (hl : cs.length = n)
    (hb : ∀ u ∈ cs, ∃ b : Int, u = .int q b ∧ (Lit.int q b).wf = true) : ∃ ls, P.keyLits (d + 2) t cs = some ls := by
  obtain ⟨ys, hys⟩ := mapM_some (f := fun i => P.keyLits (d + 1) e ((cs.drop (i * P.cellsOf e)).take (P.cellsOf e))) (List.range n) (fun i hi => by
    have hi' : i < cs.length := by rw [hl]; exact List.mem_range.1 hi
    obtain ⟨b, hb1, hb2⟩ := hb _ (List.getElem_mem hi')
    rw [h1, Nat.mul_one, take_one (List.getElem?_eq_getElem hi'), hb1]
    exact ⟨[.int q b], by unfold Program.keyLits; simp [he, hb2]⟩)
  exact ⟨_, by unfold Program.keyLits; simp only [hu, hl, hn, if_true]; rw [hys]; rfl⟩
theorem lits_int {P : Program} {d : Nat} {e : TypeId} {q : IntKind} {cs : List Value} (he : P.underlying e = some (.int q)) (hl : cs.length = 1) (hb : ∀ u ∈ cs, ∃ b : Int, u = .int q b ∧ (Lit.int q b).wf = true) : ∃ ls, P.keyLits (d + 1) e cs = some ls := by
  match cs, hl with
  | [u], _ =>
    obtain ⟨b, rfl, h2⟩ := hb u (List.mem_cons_self ..)
    exact ⟨[.int q b], by unfold Program.keyLits; simp [he, h2]⟩
theorem lits_struct {P : Program} {d : Nat} {t : TypeId} {fs : Array Field} {cs : List Value} (hu : P.underlying t = some (.struct fs)) (hl : cs.length = P.cellsOf t) (hf : fs.all (·.name != "_") = true)
    (hb : ∀ f ∈ fs.toList, ∃ ls, P.keyLits d f.type ((cs.drop f.offset).take (P.cellsOf f.type)) = some ls) : ∃ ls, P.keyLits (d + 1) t cs = some ls := by
  obtain ⟨ys, hys⟩ := mapM_some (f := fun (f : Field) => P.keyLits d f.type ((cs.drop f.offset).take (P.cellsOf f.type))) fs.toList hb
  exact ⟨_, by unfold Program.keyLits; simp only [hu]; rw [if_pos ⟨hl, hf⟩, hys]; rfl⟩
theorem sizeP : ∃ m, Tryz.prog.types.size = m + 8 := ⟨Tryz.prog.types.size - 8, by have : 8 ≤ Tryz.prog.types.size := of_decide_eq_true (by kernel_rfl); omega⟩
theorem key_id {k : List Value} (h : Bs 8 k) : ∃ l, keyOf Tryz.prog 57 (.agg k.toArray) = some l := by
  obtain ⟨m, hm⟩ := sizeP
  obtain ⟨ls, hls⟩ := lits_arr (P := Tryz.prog) (d := m + 7) Tryz.underlying57 Tryz.underlying5 (by kernel_rfl) (by kernel_rfl) h.1 h.2
  refine ⟨.string (keyBytes ls), ?_⟩
  unfold keyOf
  have hf : (Value.agg k.toArray).formed Tryz.prog 57 = true := by
    have : Tryz.prog.cellsOf 57 = 8 := by kernel_rfl
    simp [Value.formed, Tryz.underlying57, this, h.1]
  have hk : Tryz.prog.keyType 57 = true := by kernel_rfl
  rw [Tryz.underlying57]
  simp only [hk, hf, Bool.and_self, if_true]
  have e : (Value.agg k.toArray).cells.toList = k := by simp [Value.cells]
  rw [e, hm, hls]
  rfl
theorem lits_j {k : List Value} (h : Bs 16 k) (d : Nat) : ∃ ls, Tryz.prog.keyLits (d + 3) 59 k = some ls := by
  refine lits_struct (P := Tryz.prog) (d := d + 2) Tryz.underlying59 (by rw [h.1]; kernel_rfl) (by kernel_rfl) ?_
  intro f hf
  have c8 : Tryz.prog.cellsOf 57 = 8 := by kernel_rfl
  simp only [List.mem_cons, List.not_mem_nil, or_false] at hf
  rcases hf with rfl | rfl
  · simp only [c8, List.drop_zero]
    have := Bs.take (n := 8) (m := 8) h
    exact lits_arr (P := Tryz.prog) Tryz.underlying57 Tryz.underlying5 (by kernel_rfl) c8 this.1 this.2
  · simp only [c8]
    have := Bs.drop (n := 8) (m := 8) h
    rw [List.take_of_length_le (by rw [this.1]; exact Nat.le_refl _)]
    exact lits_arr (P := Tryz.prog) Tryz.underlying57 Tryz.underlying5 (by kernel_rfl) c8 this.1 this.2
theorem key_j {k : List Value} (h : Bs 16 k) : ∃ l, keyOf Tryz.prog 59 (.agg k.toArray) = some l := by
  obtain ⟨m, hm⟩ := sizeP
  obtain ⟨ls, hls⟩ := lits_j h (m + 6)
  refine ⟨.string (keyBytes ls), ?_⟩
  unfold keyOf
  have hf : (Value.agg k.toArray).formed Tryz.prog 59 = true := by
    have : Tryz.prog.cellsOf 59 = 16 := by kernel_rfl
    simp [Value.formed, Tryz.underlying59, this, h.1]
  have hk : Tryz.prog.keyType 59 = true := by kernel_rfl
  rw [Tryz.underlying59]
  simp only [hk, hf, Bool.and_self, if_true]
  have e : (Value.agg k.toArray).cells.toList = k := by simp [Value.cells]
  rw [e, hm, hls]
  rfl
theorem key_t {k : List Value} {s : Value} {ts : List Value} (h : IsT k s ts) : ∃ l, keyOf Tryz.prog 83 (.agg (k ++ s :: ts).toArray) = some l := by
  obtain ⟨m, hm⟩ := sizeP
  have hl : (k ++ s :: ts).length = 23 := by rw [List.length_append, List.length_cons, h.k.1, h.ts.1]
  obtain ⟨ls, hls⟩ : ∃ ls, Tryz.prog.keyLits (m + 9) 83 (k ++ s :: ts) = some ls := by
    refine lits_struct (P := Tryz.prog) (d := m + 8) Tryz.underlying83 (by rw [hl]; kernel_rfl) (by kernel_rfl) ?_
    intro f hf
    simp only [List.mem_cons, List.not_mem_nil, or_false] at hf
    rcases hf with rfl | rfl | rfl
    · have c : Tryz.prog.cellsOf 59 = 16 := by kernel_rfl
      simp only [c, List.drop_zero]
      rw [List.take_left' h.k.1]
      exact lits_j h.k (m + 5)
    · have c : Tryz.prog.cellsOf 60 = 1 := by kernel_rfl
      simp only [c]
      rw [List.drop_left' h.k.1]
      exact lits_int (P := Tryz.prog) Tryz.underlying60 rfl (by simpa using h.s.2)
    · have c : Tryz.prog.cellsOf 81 = 6 := by kernel_rfl
      simp only [c]
      have e : (k ++ s :: ts).drop 17 = ts := by
        rw [show k ++ s :: ts = (k ++ [s]) ++ ts by simp, List.drop_left' (by rw [List.length_append, h.k.1]; rfl)]
      rw [e, List.take_of_length_le (by rw [h.ts.1]; exact Nat.le_refl _)]
      exact lits_arr (P := Tryz.prog) Tryz.underlying81 Tryz.underlying3 (by kernel_rfl) c h.ts.1 h.ts.2
  refine ⟨.string (keyBytes ls), ?_⟩
  unfold keyOf
  have hf : (Value.agg (k ++ s :: ts).toArray).formed Tryz.prog 83 = true := by
    have : Tryz.prog.cellsOf 83 = 23 := by kernel_rfl
    simp only [Value.formed, Tryz.underlying83, this, List.size_toArray, hl]
    decide
  have hk : Tryz.prog.keyType 83 = true := by kernel_rfl
  rw [Tryz.underlying83]
  simp only [hk, hf, Bool.and_self, if_true]
  have e : (Value.agg (k ++ s :: ts).toArray).cells.toList = k ++ s :: ts := by simp [Value.cells]
  rw [e, hm, hls]
  rfl
set_option maxRecDepth 100000 in
/-- two values that read as keys: compared -/
theorem eq_keys {k : TypeId} {m : Nat} (hm : m ≤ 10000) (hk : Tryz.prog.keyTypeAt m k = true) (hwide : (match Tryz.prog.underlying k with | some (.array _ _) | some (.struct _) => true | _ => false) = true) (K : Maps.Keyed Tryz.prog k) {x y : Value} {lx ly : Lit}
    (hx : keyOf Tryz.prog k x = some lx) (hy : keyOf Tryz.prog k y = some ly) (w : World) : ∃ r : Bool, (Op.equal k x y).run Tryz.prog w = .ok r w ∧ (r = true ↔ x = y) := by
  obtain ⟨r, hr, hiff⟩ := run_equal_deep w hm hk hwide hx hy
  exact ⟨r, hr, hiff.trans ⟨fun e => by subst e; exact K.inj hx hy, fun e => by subst e; rw [hx] at hy; injection hy⟩⟩
theorem agg_inj {a b : List Value} : Value.agg a.toArray = Value.agg b.toArray ↔ a = b := by
  constructor
  · intro h; injection h with h; simpa using h
  · intro h; rw [h]
theorem eql_id {a b : List Value} (ha : Bs 8 a) (hb : Bs 8 b) (w : World) : ∃ r : Bool, (r = true ↔ a = b) ∧ (binOp .eql 57 (.agg a.toArray) (.agg b.toArray)).run Tryz.prog w = .ok (.bool r) w ∧ (binOp .neq 57 (.agg a.toArray) (.agg b.toArray)).run Tryz.prog w = .ok (.bool (!r)) w := by
  obtain ⟨la, hla⟩ := key_id ha
  obtain ⟨lb, hlb⟩ := key_id hb
  obtain ⟨r, hr, hi⟩ := eq_keys (m := 2) (by omega) (by kernel_rfl) (by kernel_rfl) law23 hla hlb w
  exact ⟨r, hi.trans agg_inj, by simp [binOp, hr, Result.andThen], by simp [binOp, hr, Result.andThen]⟩
theorem eql_j {a b : List Value} (ha : Bs 16 a) (hb : Bs 16 b) (w : World) : ∃ r : Bool, (r = true ↔ a = b) ∧ (binOp .eql 59 (.agg a.toArray) (.agg b.toArray)).run Tryz.prog w = .ok (.bool r) w ∧ (binOp .neq 59 (.agg a.toArray) (.agg b.toArray)).run Tryz.prog w = .ok (.bool (!r)) w := by
  obtain ⟨la, hla⟩ := key_j ha
  obtain ⟨lb, hlb⟩ := key_j hb
  obtain ⟨r, hr, hi⟩ := eq_keys (m := 3) (by omega) (by kernel_rfl) (by kernel_rfl) law25 hla hlb w
  exact ⟨r, hi.trans agg_inj, by simp [binOp, hr, Result.andThen], by simp [binOp, hr, Result.andThen]⟩
theorem eql_t {a b : List Value} {s s' : Value} {ts ts' : List Value} (ha : IsT a s ts) (hb : IsT b s' ts') (w : World) : ∃ r : Bool, (r = true ↔ a ++ s :: ts = b ++ s' :: ts') ∧ (binOp .eql 83 (.agg (a ++ s :: ts).toArray) (.agg (b ++ s' :: ts').toArray)).run Tryz.prog w = .ok (.bool r) w ∧ (binOp .neq 83 (.agg (a ++ s :: ts).toArray) (.agg (b ++ s' :: ts').toArray)).run Tryz.prog w = .ok (.bool (!r)) w := by
  obtain ⟨la, hla⟩ := key_t ha
  obtain ⟨lb, hlb⟩ := key_t hb
  obtain ⟨r, hr, hi⟩ := eq_keys (m := 4) (by omega) (by kernel_rfl) (by kernel_rfl) law40 hla hlb w
  exact ⟨r, hi.trans agg_inj, by simp [binOp, hr, Result.andThen], by simp [binOp, hr, Result.andThen]⟩
end Go.Proofs.YtnooghehmgbemaaGreat
