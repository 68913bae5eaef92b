/- TripPlays: an append that tells where; lists that grow. -/
import Derived.Test.YtnooghehmgbemaaGreatP14
import Derived.ArgAppend
import Derived.Maps.AppendAt
namespace Go.Proofs.YtnooghehmgbemaaGreat
open Go.RowKit
set_option linter.unusedVariables false
set_option linter.unusedSimpArgs false

/-- append: in its own block, or in a new one, and then the old one lies as it lay -/
def Two (w : World) (v v' : Value) (w' : World) : Prop := (v'.ownBlock = v.ownBlock ∧ w.grownBy w' v.ownBlock) ∨ ((∀ g, v'.ownBlock = some g → w.heap.size ≤ g ∧ g < w'.heap.size) ∧ w.grownBy w' none)
theorem own_lt {w : World} {base : Nat} {e : TypeId} {size n : Nat} {v : Value} {xs : List Value} (h : w.ownsRow base e size v n xs) {g : Nat} (hg : v.ownBlock = some g) : base ≤ g ∧ g < w.heap.size := by
  rcases h.2 with ⟨rfl, _⟩ | ⟨g', cap, cur, rfl, hb, h1, _⟩
  · cases hg
  · injection hg with hg; subst hg
    exact ⟨hb, (Array.getElem?_eq_some_iff.1 h1).1⟩
theorem own_base {w : World} {b b' : Nat} {e : TypeId} {size n : Nat} {v : Value} {xs : List Value} (h : w.ownsRow b e size v n xs) (hb : b' ≤ b) : w.ownsRow b' e size v n xs := ⟨h.1, by
  rcases h.2 with h | ⟨g', cap, cur, h1, h2, h3⟩
  · exact .inl h
  · exact .inr ⟨g', cap, cur, h1, Nat.le_trans hb h2, h3⟩⟩
theorem run_append_two {P : Program} (w : World) (t ty e : TypeId) (i : TypeInfo) (z : Value) (size bytes : Nat) (ht : P.underlying t = some (.slice e)) (hi : P.info? e = some i) (hz : i.zero = some z)
    (hsize : i.size = size) (hby : i.bytes = bytes) (hzs : z.cells.size = size) (hsz : 0 < size)
    (v : Value) (n : Nat) (xs : List Value) (hown : w.ownsRow 0 e size v n xs)
    (a : Addr) (m c : Nat) (news : List Value) (hl : news.length = m * size) (hnews : ∀ j u, news[j]? = some u → w.cell? (a.add j) = some u) (h1 : ∀ u ∈ news, u.oneCell' = true)
    (h63 : n + m ≤ maxLen) (hbytes : (n + m) * bytes ≤ 140737488355328) :
    ∃ v' w', (Builtin.append_ #[t, t] ty #[v, .slice (some a) m c]).run P w = .ok v' w' ∧ w'.ownsRow 0 e size v' (n + m) (xs ++ news) ∧ Two w v v' w' := by
  rcases hown.2 with ⟨rfl, rfl⟩ | ⟨g, cap, cur, rfl, hbg, hg, hnc, hcm, hcs, htake⟩
  · obtain ⟨v', w', hr, h2, h3, _, h5⟩ := run_append_own_at (P := P) w 0 t ty e i z size bytes ht hi hz hsize hby hzs hsz (.slice none 0 0) 0 xs hown a m c news hl hnews h1 h63 hbytes (Nat.zero_le _)
    refine ⟨v', w', hr, h2, ?_⟩
    rcases h5 with h5 | h5
    · exact .inl ⟨h5, h3⟩
    · exact .inr ⟨fun g hg => ⟨by rw [h5] at hg; injection hg with hg; omega, (own_lt h2 hg).2⟩, h3⟩
  · by_cases hroom : n + m ≤ cap
    · obtain ⟨v', w', hr, h2, h3, _, h5⟩ := run_append_own_at (P := P) w 0 t ty e i z size bytes ht hi hz hsize hby hzs hsz (.slice (some ⟨g, 0, none⟩) n cap) n xs hown a m c news hl hnews h1 h63 hbytes (Nat.zero_le _)
      have hfit : n * i.size + news.length ≤ cur.size := by rw [hl, hcs, hsize, ← Nat.add_mul]; exact Nat.mul_le_mul_right _ hroom
      have hr2 := run_append_room (P := P) w t ty e i ht hi g n cap cur hg a m c news (by rw [hl, hsize]) hnews h1 hroom hfit
      rw [hr2] at hr
      injection hr with hr hr'
      subst hr
      exact ⟨_, w', by rw [hr2, hr'], h2, .inl ⟨rfl, h3⟩⟩
    · have holds : ∀ j u, xs[j]? = some u → w.cell? ((⟨g, 0, none⟩ : Addr).add j) = some u := hown.cells (g := g) rfl
      obtain ⟨v', w', hr, h2, h3⟩ := run_append_arg_grows (P := P) w t ty e i z size bytes ht hi hz hsize hby hzs hsz ⟨g, 0, none⟩ n cap xs hown.1 holds a m c news hl hnews (by omega) h63 hbytes
      exact ⟨v', w', hr, own_base h2 (Nat.zero_le _), .inr ⟨fun g' hg' => own_lt h2 hg', h3⟩⟩
theorem wpList_append_two {P : Program} {w : World} {ops : Array Oper} {rest : List Oper} {o : Oper} {a : Act} {Q : Exit → Act → World → Prop} (hgd : o.guard = none) (s x : Operand) (t : TypeId)
    (ho : o.op = .call { callee := .builtin .append, args := #[s, x], argTypes := #[t, t] })
    (e : TypeId) (i : TypeInfo) (z : Value) (size bytes : Nat) (ht : P.underlying t = some (.slice e)) (hi : P.info? e = some i) (hz : i.zero = some z)
    (hsize : i.size = size) (hby : i.bytes = bytes) (hzs : z.cells.size = size) (hsz : 0 < size)
    (v : Value) (n : Nat) (xs : List Value) (hs : a.eval s = v) (hown : w.ownsRow 0 e size v n xs)
    (ad : Addr) (m c : Nat) (news : List Value) (hx : a.eval x = .slice (some ad) m c) (hl : news.length = m * size) (hnews : ∀ j u, news[j]? = some u → w.cell? (ad.add j) = some u) (h1 : ∀ u ∈ news, u.oneCell' = true)
    (h63 : n + m ≤ maxLen) (hbytes : (n + m) * bytes ≤ 140737488355328)
    (h : ∀ v' w', w'.ownsRow 0 e size v' (n + m) (xs ++ news) → Two w v v' w' → Pause (wpList P ops Q rest (a.put o.dst v') w')) : wpList P ops Q (o :: rest) a w := by
  refine wpList_plain hgd fun K hK => ?_
  obtain ⟨v', w', hr, h2, h3⟩ := run_append_two (P := P) w t o.type e i z size bytes ht hi hz hsize hby hzs hsz v n xs hown ad m c news hl hnews h1 h63 hbytes
  unfold Oper.wp execOp
  simp only [ho, resolve, invoke, builtin, Sem.run_bind, Sem.run_pure, Result.andThen_ok, List.map_toArray, List.map_cons, List.map_nil, hs, hx, hr]
  exact hK _ _ (h v' w' h2 h3).out
theorem wpList_build1 {P : Program} {w : World} {ops : Array Oper} {rest : List Oper} {o : Oper} {a : Act} {Q : Exit → Act → World → Prop} (hgd : o.guard = none) (t e : TypeId) (x : Operand) (ho : o.op = .buildSlice t 1 #[(0, x)]) (cs z : Array Value) (n bytes : Nat) (hu : P.underlying t = some (.slice e)) (hi : (P.info? e).map (fun i => (i.zero, i.size, i.bytes)) = some (some (.agg z), n, bytes)) (hx : a.eval x = .agg cs) (hn : cs.size = n) (hz : z.size = n) (h0 : 0 < n) (hs : n < 1000)
    (h : wpList P ops Q rest (a.put o.dst (.slice (some ⟨w.heap.size, 0, none⟩) 1 1)) (w.alloc (.cells cs e))) : wpList P ops Q (o :: rest) a w :=
  wpList_plain hgd fun _ hK => wp_build1 t e x ho cs z n bytes hu hi hx hn hz h0 (by omega) (hK _ _ h)
/-- list e reads as marks -/
def EntF (w : World) (e : HE) : Prop := (e.g = none ∧ e.len = 0) ∨ ∃ b, e.g = some b ∧ b < w.heap.size ∧ w.rangeAt b 0 (MKS e.num e.len)
/-- how far list e has come: none: as it was, full of marks; some (lg, m): m marks more are in lg; Pi: its blocks -/
def Lv (w : World) (e : HE) (Pi : Nat → Prop) : Option (Value × Nat) → Prop
  | none => w.ownsRow 0 83 23 e.v e.len (MKS e.num e.len) ∧ ∀ g, e.g = some g → Pi g
  | some (lg, m) => EntF w e ∧ w.ownsRow 0 83 23 lg (e.len + m) (MKS e.num (e.len + m)) ∧ (∀ g, e.g = some g → Pi g) ∧ ∀ g, lg.ownBlock = some g → Pi g
theorem entF_of_own {w : World} {e : HE} (h : w.ownsRow 0 83 23 e.v e.len (MKS e.num e.len)) : EntF w e := by
  cases hg : e.g with
  | none =>
    refine .inl ⟨hg, ?_⟩
    rcases h.2 with ⟨_, h⟩ | ⟨g, cap, cur, h, _⟩
    · exact h
    · unfold HE.v at h; rw [hg] at h; cases h
  | some b =>
    refine .inr ⟨b, hg, (own_lt h (by unfold HE.v; rw [hg]; rfl)).2, fun j v hv => ?_⟩
    have := World.ownsRow.cells h (g := b) (by unfold HE.v; rw [hg]; rfl) j v hv
    rwa [Go.WideShapes.add_plain] at this
theorem Lv.of {w u : World} {e : HE} {Pi : Nat → Prop} {t : Option (Value × Nat)} (h : Lv w e Pi t) (hs : w.heap.size ≤ u.heap.size) (hb : ∀ b, Pi b → u.heap[b]? = w.heap[b]?) : Lv u e Pi t := by
  match t, h with
  | none, h => exact ⟨ownsRow_of h.1 (fun g hg => hb g (h.2 g (by unfold HE.v at hg; cases hg' : e.g with
    | none => rw [hg'] at hg; cases hg
    | some b => rw [hg'] at hg; exact hg))), h.2⟩
  | some (lg, m), h =>
    refine ⟨?_, ownsRow_of h.2.1 (fun g hg => hb g (h.2.2.2 g hg)), h.2.2⟩
    rcases h.1 with h1 | ⟨b, h1, h2, h3⟩
    · exact .inl h1
    · exact .inr ⟨b, h1, Nat.lt_of_lt_of_le h2 hs, fun j v hv => (World.cell?_of_block (hb b (h.2.2.1 b h1))).trans (h3 j v hv)⟩
theorem Lv.mono {w : World} {e : HE} {Pi Pj : Nat → Prop} {t : Option (Value × Nat)} (h : Lv w e Pi t) (hp : ∀ b, Pi b → Pj b) : Lv w e Pj t := by
  match t, h with
  | none, h => exact ⟨h.1, fun g hg => hp g (h.2 g hg)⟩
  | some (lg, m), h => exact ⟨h.1, h.2.1, fun g hg => hp g (h.2.2.1 g hg), fun g hg => hp g (h.2.2.2 g hg)⟩
def rowsG (es : List HE) (long : Nat → Value) : List (List Value) := es.mapIdx fun i e => [e.v, long i, .int .i64 e.num]
structure BookG (F : Nat → Prop) (w : World) (kb : Nat) (hv : Value) (es : List HE) (long : Nat → Value) (T : Nat → Option (Value × Nat)) (Pb : Nat → Nat → Prop) : Prop where
  hd : w.heap[kb]? = some (.cells (bookC es.length hv) 54 (0, 0))
  row : w.ownsRow 0 93 3 hv es.length ((rowsG es long).flatMap id)
  leaf : ∀ (i : Nat) (e : HE), es[i]? = some e → Lv w e (Pb i) (T i)
  sub : ∀ i b, Pb i b → b ≠ kb ∧ hv.ownBlock ≠ some b ∧ F b
  apart : ∀ i j b, Pb i b → Pb j b → i = j
  num : ∀ (i : Nat) (e : HE), es[i]? = some e → e.num = (i : Int) + 1
  len : ∀ e ∈ es, e.len ≤ 1048576
  fr : F kb
  fo : ∀ g, hv.ownBlock = some g → F g
theorem rowsG_len {es : List HE} {long : Nat → Value} : (rowsG es long).length = es.length := by simp [rowsG]
theorem rowsG_at {es : List HE} {long : Nat → Value} {i : Nat} {e : HE} (he : es[i]? = some e) : (rowsG es long)[i]? = some [e.v, long i, .int .i64 e.num] := by unfold rowsG; rw [List.getElem?_mapIdx, he]; rfl
theorem rowsG_three {es : List HE} {long : Nat → Value} : ∀ x ∈ rowsG es long, x.length = 3 := fun x hx => by
  obtain ⟨i, hi⟩ := List.mem_iff_getElem?.1 hx
  unfold rowsG at hi
  rw [List.getElem?_mapIdx] at hi
  cases he : es[i]? with
  | none => rw [he] at hi; cases hi
  | some e => rw [he] at hi; simp at hi; rw [← hi]; rfl
theorem rowsG_nil {es : List HE} : rowsG es (fun _ => .slice none 0 0) = es.map HE.cells := by
  apply List.ext_getElem?
  intro i
  unfold rowsG
  rw [List.getElem?_mapIdx, List.getElem?_map]
  cases es[i]? <;> rfl
theorem rowsG_set {es : List HE} {long : Nat → Value} {i : Nat} {e : HE} (he : es[i]? = some e) (lg : Value) : (rowsG es long).set i ([e.v, long i, .int .i64 e.num].set 1 lg) = rowsG es (fun j => if j = i then lg else long j) := by
  apply List.ext_getElem?
  intro j
  rw [List.getElem?_set, rowsG_len]
  by_cases h : i = j
  · subst h
    rw [if_pos rfl, if_pos (List.getElem?_eq_some_iff.1 he).1, rowsG_at he, if_pos rfl]; rfl
  · rw [if_neg h]
    unfold rowsG
    rw [List.getElem?_mapIdx, List.getElem?_mapIdx]
    cases es[j]? with
    | none => rfl
    | some x => simp [Ne.symm h]
section
variable {F : Nat → Prop} {w u : World} {kb : Nat} {hv : Value} {es : List HE} {long : Nat → Value} {T T' : Nat → Option (Value × Nat)} {Pb : Nat → Nat → Prop}
theorem BookM.g (h : BookM F w kb hv es (LenAt es)) : BookG F w kb hv es (fun _ => .slice none 0 0) (fun _ => none) (fun i b => ∃ e, es[i]? = some e ∧ e.g = some b) where
  hd := h.hd
  row := by rw [rowsG_nil]; exact h.row
  leaf := fun i e he => by
    refine ⟨?_, fun g hg => ⟨e, he, hg⟩⟩
    have := h.leaf i e he
    rw [lenAt he] at this
    rcases this with ⟨h1, h2, h3, _⟩ | ⟨b, cur, h1, h2, h3, h4, h5, h6, h7⟩
    · exact ⟨mks_len _ _, .inl ⟨by unfold HE.v; rw [h1, h2, h3]; rfl, h2⟩⟩
    · exact ⟨mks_len _ _, .inr ⟨b, e.cap, cur, by unfold HE.v; rw [h1]; rfl, Nat.zero_le _, h2, h3, h4, h5, h7⟩⟩
  sub := fun i b ⟨e, he, hb⟩ => by
    rcases h.leaf i e he with ⟨h1, _⟩ | ⟨b', cur, h1, h2, h3, h4, h5, h6, h7⟩
    · rw [h1] at hb; cases hb
    · rw [h1] at hb; injection hb with hb; subst hb
      refine ⟨fun e' => ?_, fun e' => ?_, h6⟩
      · have := h.hd; rw [← e', h2] at this; injection this with this; injection this with _ this; cases this
      · rcases h.row.2 with ⟨h', _⟩ | ⟨g', cap', cur', h', _, h8, _⟩
        · rw [h'] at e'; cases e'
        · rw [h'] at e'; injection e' with e'; subst e'
          rw [show (⟨g', 0, none⟩ : Addr).block = g' from rfl, h8] at h2; injection h2 with h2; injection h2 with _ h2; cases h2
  apart := fun i j b ⟨e, he, hb⟩ ⟨x, hx, hb'⟩ => by
    obtain ⟨hi, hei⟩ := List.getElem?_eq_some_iff.1 he
    obtain ⟨hj, hxj⟩ := List.getElem?_eq_some_iff.1 hx
    have ha := List.pairwise_iff_getElem.1 h.apart
    rcases Nat.lt_trichotomy i j with hl | hl | hl
    · exact (ha i j hi hj hl b (by rw [hei]; exact hb) (by rw [hxj]; exact hb')).elim
    · exact hl
    · exact (ha j i hj hi hl b (by rw [hxj]; exact hb') (by rw [hei]; exact hb)).elim
  num := h.num
  len := h.len
  fr := h.fr
  fo := h.fo
theorem BookG.congr (h : BookG F w kb hv es long T Pb) (hT : ∀ j, j < es.length → T j = T' j) : BookG F w kb hv es long T' Pb :=
  { h with leaf := fun i e he => by rw [← hT i (List.getElem?_eq_some_iff.1 he).1]; exact h.leaf i e he }
theorem BookG.of_blocks (h : BookG F w kb hv es long T Pb) (hs : w.heap.size ≤ u.heap.size) (hb : ∀ k, F k → u.heap[k]? = w.heap[k]?) : BookG F u kb hv es long T Pb :=
  { h with
    hd := (hb _ h.fr).trans h.hd
    row := ownsRow_of h.row (fun g hg => hb g (h.fo g hg))
    leaf := fun i e he => (h.leaf i e he).of hs (fun b hp => hb b (h.sub i b hp).2.2) }
theorem BookG.c18 (h : BookG F w kb hv es long T Pb) : w.cell? ⟨kb, 18, none⟩ = some hv := by rw [cell_of_row w kb _ _ _ _ h.hd]; rfl
theorem BookG.entry (h : BookG F w kb hv es long T Pb) {i : Nat} {e : HE} (he : es[i]? = some e) : ∃ g cap cur, hv = .slice (some ⟨g, 0, none⟩) es.length cap ∧ w.rangeAt g (i * 3) [e.v, long i, .int .i64 e.num] ∧ F g ∧ w.heap[g]? = some (.cells cur 93 (0, 0)) ∧ i * 3 + 3 ≤ cur.size ∧ es.length ≤ cap ∧ cap ≤ maxLen ∧ cur.size = cap * 3 ∧ cur.toList.take (es.length * 3) = (rowsG es long).flatMap id := by
  have hi := (List.getElem?_eq_some_iff.1 he).1
  obtain ⟨g, cap, cur, hv', _, h1, h3, h4, h5, h2⟩ := h.row.2.resolve_left (fun h => by omega)
  refine ⟨g, cap, cur, hv', ?_, h.fo g (by rw [hv']; rfl), h1, by rw [h5]; omega, h3, h4, h5, h2⟩
  exact range_of h1 (i * 3) (es.length * 3) (h2.trans (flat_split (rowsG_at he))) (by
    rw [flat_len (m := 3) _ (fun x hx => rowsG_three x (List.mem_of_mem_take hx)), List.length_take, rowsG_len, Nat.min_eq_left (Nat.le_of_lt hi)])
theorem BookG.start (h : BookG F w kb hv es long T Pb) {i : Nat} {e : HE} (he : es[i]? = some e) (hT : T i = none) : BookG F w kb hv es long (fun j => if j = i then some (e.v, 0) else T j) Pb :=
  { h with
    leaf := fun j x hx => by
      by_cases hj : j = i
      · subst hj
        rw [he] at hx; cases hx
        have := h.leaf j e he
        rw [hT] at this
        rw [if_pos rfl]
        exact ⟨entF_of_own this.1, this.1, this.2, fun g hg => this.2 g (by
          unfold HE.v at hg
          cases hg' : e.g with
          | none => rw [hg'] at hg; cases hg
          | some b => rw [hg'] at hg; exact hg)⟩
      · rw [if_neg hj]; exact h.leaf j x hx }
/-- one mark more behind list i -/
theorem BookG.step (h : BookG F w kb hv es long T Pb) (hF : ∀ k, F k → k < w.heap.size) {i : Nat} {e : HE} (he : es[i]? = some e) {lg lg' : Value} {m : Nat} (hT : T i = some (lg, m)) (ho : u.ownsRow 0 83 23 lg' (e.len + (m + 1)) (MKS e.num (e.len + (m + 1)))) (h2 : Two w lg lg' u) :
    ∃ (F' : Nat → Prop) (Pb' : Nat → Nat → Prop), BookG F' u kb hv es long (fun j => if j = i then some (lg', m + 1) else T j) Pb' ∧ Lies F w u ∧ (∀ k, F' k → k < u.heap.size) ∧ ∀ k, F' k → F k ∨ w.heap.size ≤ k := by
  have hi := h.leaf i e he
  rw [hT] at hi
  obtain ⟨e1, e2, e3, e4⟩ := hi
  -- which blocks of F have changed
  have chg : ∀ b, b < w.heap.size → lg.ownBlock ≠ some b → u.heap[b]? = w.heap[b]? := fun b hb hn => by
    rcases h2 with ⟨_, g⟩ | ⟨_, g⟩
    · exact g.block b hb (fun e => hn e.symm)
    · exact g.block b hb (fun e => by cases e)
  have hs : w.heap.size ≤ u.heap.size := by rcases h2 with ⟨_, g⟩ | ⟨_, g⟩ <;> exact g.size
  have hlF : ∀ g, lg.ownBlock = some g → F g := fun g hg => (h.sub i g (e4 g hg)).2.2
  have new : ∀ g, lg'.ownBlock = some g → Pb i g ∨ (w.heap.size ≤ g ∧ g < u.heap.size) := fun g hg => by
    rcases h2 with ⟨hh, _⟩ | ⟨hh, _⟩
    · rw [hh] at hg; exact .inl (e4 g hg)
    · exact .inr (hh g hg)
  have hL : Lies F w u := by
    rcases h2 with ⟨_, g⟩ | ⟨_, g⟩
    · exact ⟨g.os, g.tape, g.output, g.size, fun k hk hx => g.block k hk (fun e => hx (hlF k e.symm))⟩
    · exact ⟨g.os, g.tape, g.output, g.size, fun k hk _ => g.block k hk (fun e => by cases e)⟩
  have hkb := Nat.lt_of_lt_of_le (hF kb h.fr) (Nat.le_refl _)
  refine ⟨fun k => F k ∨ lg'.ownBlock = some k, fun j b => Pb j b ∨ (j = i ∧ lg'.ownBlock = some b), ?_, hL, ?_, ?_⟩
  · exact {
      hd := (chg kb hkb (fun e => (h.sub i kb (e4 kb e)).1 rfl)).trans h.hd
      row := ownsRow_of h.row (fun g hg => chg g (hF g (h.fo g hg)) (fun e => (h.sub i g (e4 g e)).2.1 hg))
      leaf := fun j x hx => by
        by_cases hj : j = i
        · subst hj
          rw [he] at hx; cases hx
          rw [if_pos rfl]
          refine ⟨?_, ho, fun g hg => .inl (e3 g hg), fun g hg => .inr ⟨rfl, hg⟩⟩
          rcases e1 with e1 | ⟨b, h1, hb, hr⟩
          · exact .inl e1
          · refine .inr ⟨b, h1, Nat.lt_of_lt_of_le hb hs, ?_⟩
            by_cases hc : lg.ownBlock = some b
            · rcases h2 with ⟨hh, _⟩ | ⟨_, g⟩
              · intro k v hv
                have hg' : lg'.ownBlock = some b := hh.trans hc
                obtain ⟨c', n', hlg⟩ : ∃ c' n', lg' = .slice (some ⟨b, 0, none⟩) n' c' := by
                  rcases ho.2 with ⟨h', _⟩ | ⟨g', cap', cur', h', _⟩
                  · rw [h'] at hg'; cases hg'
                  · rw [h'] at hg'; injection hg' with hg'; subst hg'; exact ⟨_, _, h'⟩
                have hk : k < e.len * 23 := by rw [← mks_len e.num e.len]; exact (List.getElem?_eq_some_iff.1 hv).1
                have hv' : (MKS e.num (e.len + (m + 1)))[k]? = some v := by
                  rw [← mks_take e.num (k := e.len + (m + 1)) (by omega : e.len ≤ e.len + (m + 1)), List.getElem?_take_of_lt hk] at hv
                  exact hv
                have := World.ownsRow.cells ho (g := b) (by rw [hlg]; rfl) k v hv'
                rwa [Go.WideShapes.add_plain] at this
              · intro k v hv
                exact (World.cell?_of_block (g.block b hb (fun e => by cases e))).trans (hr k v hv)
            · intro k v hv
              exact (World.cell?_of_block (chg b hb hc)).trans (hr k v hv)
        · rw [if_neg hj]
          exact ((h.leaf j x hx).of hs (fun b hp => chg b (hF b (h.sub j b hp).2.2) (fun e => hj (h.apart j i b hp (e4 b e))))).mono (fun b hb => .inl hb)
      sub := fun j b hb => by
        rcases hb with hb | ⟨rfl, hb⟩
        · exact ⟨(h.sub j b hb).1, (h.sub j b hb).2.1, .inl (h.sub j b hb).2.2⟩
        · rcases new b hb with hb' | hb'
          · exact ⟨(h.sub j b hb').1, (h.sub j b hb').2.1, .inr hb⟩
          · exact ⟨fun e => by omega, fun e => by have := hF b (h.fo b e); omega, .inr hb⟩
      apart := fun j k b hb hb' => by
        rcases hb with hb | ⟨rfl, hb⟩ <;> rcases hb' with hb' | ⟨rfl, hb'⟩
        · exact h.apart j k b hb hb'
        · rcases new b hb' with hn | hn
          · exact h.apart j k b hb hn
          · have := hF b (h.sub j b hb).2.2; omega
        · rcases new b hb with hn | hn
          · exact h.apart j k b hn hb'
          · have := hF b (h.sub k b hb').2.2; omega
        · rfl
      num := h.num
      len := h.len
      fr := .inl h.fr
      fo := fun g hg => .inl (h.fo g hg) }
  · rintro k (hk | hk)
    · exact Nat.lt_of_lt_of_le (hF k hk) hs
    · exact (own_lt ho hk).2
  · rintro k (hk | hk)
    · exact .inl hk
    · rcases new k hk with hn | hn
      · exact .inl (h.sub i k hn).2.2
      · exact .inr hn.1
end
end Go.Proofs.YtnooghehmgbemaaGreat
