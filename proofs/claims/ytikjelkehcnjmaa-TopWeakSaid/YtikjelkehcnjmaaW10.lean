/- Top, base: blocks of one's own beside a slice that grows. -/
import Derived.Test.YtikjelkehcnjmaaW9
import Derived.Deep.AppendLies
import Derived.OwnWalk
namespace Go.Proofs.Ytikjelkehcnjmaa
open Go.RowKit
set_option linter.unusedVariables false
set_option linter.unusedSimpArgs false
structure MA (w0 w : World) (bs : List (Nat × Obj)) (e : TypeId) (size : Nat) (v : Value) (n : Nat) (cs : List Value) : Prop where
  mem : Mem w0 w bs
  own : w.ownsRow w0.heap.size e size v n cs
  ne : ∀ g, v.ownBlock = some g → ∀ (i b : Nat) (o : Obj), bs[i]? = some (b, o) → b ≠ g
section
variable {w0 w u : World} {bs : List (Nat × Obj)} {e : TypeId} {size n : Nat} {v : Value} {cs : List Value}
theorem MA.start (S : Mem w0 w bs) (e : TypeId) (size : Nat) : MA w0 w bs e size (.slice none 0 0) 0 [] := ⟨S, ⟨by simp, .inl ⟨rfl, rfl⟩⟩, fun g h => by simp [Value.ownBlock] at h⟩
theorem own_below {base : Nat} {xs : List Value} (h : w.ownsRow base e size v n xs) (hb : Below w.heap.size w u) : u.ownsRow base e size v n xs := by
  obtain ⟨hl, h | ⟨g, cap, cur, hv, hbase, hg, r⟩⟩ := h
  · exact ⟨hl, .inl h⟩
  · exact ⟨hl, .inr ⟨g, cap, cur, hv, hbase, (hb.block g (lt_of_block hg)).trans hg, r⟩⟩
theorem MA.up (S : MA w0 w bs e size v n cs) (hb : Below w.heap.size w u) : MA w0 u bs e size v n cs := ⟨S.mem.up hb, own_below S.own hb, S.ne⟩
theorem MA.drew (S : MA w0 w bs e size v n cs) : MA w0 w.drew bs e size v n cs := S.up (Below.refl _ _).drew
theorem MA.add (S : MA w0 w bs e size v n cs) (o : Obj) : MA w0 (w.alloc o) (bs ++ [(w.heap.size, o)]) e size v n cs := by
  refine ⟨S.mem.alloc o, S.own.alloc o, fun g hg i b o' hi => ?_⟩
  have hlt := (S.own.lt g hg).2
  by_cases x : i < bs.length
  · rw [List.getElem?_append_left x] at hi; exact S.ne g hg i b o' hi
  · rw [List.getElem?_append_right (by omega)] at hi
    by_cases y : i - bs.length = 0
    · rw [y] at hi; simp at hi; omega
    · rw [List.getElem?_eq_none (by simp; omega)] at hi; cases hi
theorem MA.set (S : MA w0 w bs e size v n cs) (i : Nat) {b : Nat} {c : Array Value} {t : TypeId} (hi : bs[i]? = some (b, .cells c t (0, 0))) (c' : Array Value) : MA w0 (w.setRow b c') (bs.set i (b, .cells c' t (0, 0))) e size v n cs := by
  refine ⟨S.mem.set i hi c', S.own.kept (grown_setRow w b c') ?_, fun g hg j b' o' hj => ?_⟩
  · cases hv : v.ownBlock with
    | none => exact .inl rfl
    | some g => exact .inr fun x => by injection x with x; exact S.ne g hv i b _ hi x.symm
  · by_cases x : i = j
    · subst x
      rw [List.getElem?_set_self (List.getElem?_eq_some_iff.1 hi).1] at hj
      injection hj with hj; injection hj with h1 h2; subst h1
      exact S.ne g hg i b _ hi
    · rw [List.getElem?_set_ne x] at hj; exact S.ne g hg j b' o' hj
theorem MA.pre (bs : List (Nat × Obj)) {ds : List (Nat × Obj)} (S : MA w0 w (bs ++ ds) e size v n cs) : MA w0 w bs e size v n cs :=
  ⟨Mem.pre bs S.mem, S.own, fun g hg i b o hi => S.ne g hg i b o (by rw [List.getElem?_append_left (List.getElem?_eq_some_iff.1 hi).1]; exact hi)⟩
theorem MA.pushed (S : MA w0 w bs e size v n cs) (o : Obj) {g cap m : Nat} {news : List Value} (ho : u.ownsRow w0.heap.size e size (.slice (some ⟨g, 0, none⟩) (n + m) cap) (n + m) (cs ++ news)) (hg : (w.alloc o).grownBy u v.ownBlock) (hl : v.ownBlock = some g ∨ g = (w.alloc o).heap.size) :
    MA w0 u bs e size (.slice (some ⟨g, 0, none⟩) (n + m) cap) (n + m) (cs ++ news) := by
  have S1 := S.mem.up ((Below.refl w.heap.size w).alloc (Nat.le_refl _) o)
  have hsz : w0.heap.size ≤ (w.alloc o).heap.size := S1.below.size
  refine ⟨⟨S1.below.grown hg hsz fun k hk => (S.own.lt k hk).1, fun i b o' hi => ?_, S1.new, S1.nd⟩, ho, fun g' hg' i b o' hi => ?_⟩
  · have hb := S1.hb i b o' hi
    rw [hg.block b (lt_of_block hb) fun x => S.ne b x.symm i b o' hi rfl]
    exact hb
  · have e1 : g' = g := by simp [Value.ownBlock] at hg'; exact hg'.symm
    subst e1
    rcases hl with hl | hl
    · exact S.ne g' hl i b o' hi
    · have := lt_of_block (S1.hb i b o' hi); omega
end
section
variable {P : Program} {ops : Array Oper} {rest : List Oper} {o : Oper} {a : Act} {w w0 : World} {Q : Exit → Act → World → Prop} {K : Act → World → Prop} {bs : List (Nat × Obj)} {e : TypeId} {size n : Nat} {v : Value} {cs : List Value}
theorem wp_pushM (s x : Operand) (t : TypeId) (ho : o.op = .call { callee := .builtin .append, args := #[s, x], argTypes := #[t, t] })
    (i : TypeInfo) (z : Value) (bytes : Nat) (ht : P.underlying t = some (.slice e)) (hi : P.info? e = some i) (hz : i.zero = some z) (hsize : i.size = size) (hby : i.bytes = bytes) (hzs : z.cells.size = size) (hsz : 0 < size)
    (S : MA w0 w bs e size v n cs) (hs : a.eval s = v) (nw : Array Value) (hx : a.eval x = .slice (some ⟨w.heap.size, 0, none⟩) 1 1) (hl : nw.size = size) (h1 : nw.all (·.oneCell') = true) (hn : n ≤ 1048576) (hb : bytes ≤ 1024)
    (h : ∀ g cap w', MA w0 w' bs e size (.slice (some ⟨g, 0, none⟩) (n + 1) cap) (n + 1) (cs ++ nw.toList) → K (a.put o.dst (.slice (some ⟨g, 0, none⟩) (n + 1) cap)) w') : o.wp P a (w.alloc (.cells nw e)) K Q := by
  refine wp_append_lies _ s x t ho w0.heap.size e i z size bytes ht hi hz hsize hby hzs hsz v n cs hs (S.own.alloc _) ⟨w.heap.size, 0, none⟩ 1 1 nw.toList hx (by simp [hl]) (World.news_of_block (heap_last w _)) (fun y hy => ?_) (by decide) (by unfold maxLen; omega) ?_ (Nat.le_trans S.mem.below.size (by simp)) _ rfl ?_
  · have h2 := Array.all_eq_true'.1 h1
    exact h2 y (by simpa using hy)
  · have : (n + 1) * bytes ≤ 1048577 * 1024 := Nat.mul_le_mul (by omega) hb
    omega
  · intro g cap w' h2 h3 h4 _
    exact h g cap w' (S.pushed _ h2 h3 h4)
theorem wpList_pushM (hgd : o.guard = none) (s x : Operand) (t : TypeId) (ho : o.op = .call { callee := .builtin .append, args := #[s, x], argTypes := #[t, t] })
    (i : TypeInfo) (z : Value) (bytes : Nat) (ht : P.underlying t = some (.slice e)) (hi : P.info? e = some i) (hz : i.zero = some z) (hsize : i.size = size) (hby : i.bytes = bytes) (hzs : z.cells.size = size) (hsz : 0 < size)
    (S : MA w0 w bs e size v n cs) (hs : a.eval s = v) (nw : Array Value) (hx : a.eval x = .slice (some ⟨w.heap.size, 0, none⟩) 1 1) (hl : nw.size = size) (h1 : nw.all (·.oneCell') = true) (hn : n ≤ 1048576) (hb : bytes ≤ 1024)
    (h : ∀ g cap w', MA w0 w' bs e size (.slice (some ⟨g, 0, none⟩) (n + 1) cap) (n + 1) (cs ++ nw.toList) → wpList P ops Q rest (a.put o.dst (.slice (some ⟨g, 0, none⟩) (n + 1) cap)) w') : wpList P ops Q (o :: rest) a (w.alloc (.cells nw e)) :=
  wpList_plain hgd fun _ hK => wp_pushM s x t ho i z bytes ht hi hz hsize hby hzs hsz S hs nw hx hl h1 hn hb fun g cap w' h2 => hK _ _ (h g cap w' h2)
end
theorem flat_at {α : Type} {cells : α → List Value} {size : Nat} (hsz : ∀ x, (cells x).length = size) : ∀ (xs : List α) (i j : Nat) (x : α) (v : Value), xs[i]? = some x → (cells x)[j]? = some v → (xs.flatMap cells)[i * size + j]? = some v
  | [], i, j, x, v, h, _ => by simp at h
  | y :: ys, 0, j, x, v, h, hv => by
    simp only [List.getElem?_cons_zero, Option.some.injEq] at h
    subst h
    rw [List.flatMap_cons, Nat.zero_mul, Nat.zero_add, List.getElem?_append_left (List.getElem?_eq_some_iff.1 hv).1]
    exact hv
  | y :: ys, i + 1, j, x, v, h, hv => by
    simp only [List.getElem?_cons_succ] at h
    have e : (i + 1) * size + j = (cells y).length + (i * size + j) := by rw [hsz, Nat.succ_mul]; omega
    rw [List.flatMap_cons, e, List.getElem?_append_right (by omega), Nat.add_sub_cancel_left]
    exact flat_at hsz ys i j x v h hv
theorem rd_of_own {α : Type} {cells : α → List Value} {size n base : Nat} {e : TypeId} {w : World} {v : Value} {xs : List α} (hsz : ∀ x, (cells x).length = size) (h : w.ownsRow base e size v n (xs.flatMap cells)) (hl : xs.length = n) :
    ∃ A c, v = .slice A n c ∧ n ≤ c ∧ Rd cells size w w.heap.size A n xs := by
  have hlt := h.lt
  have hc := @World.ownsRow.cells w base e size v n _ h
  rcases h.2 with ⟨rfl, h0⟩ | ⟨g, cap, cur, rfl, _, _, hnc, _⟩
  · subst h0; exact ⟨none, 0, rfl, Nat.le_refl _, hl, fun h => absurd h (Nat.lt_irrefl _)⟩
  · refine ⟨_, cap, rfl, hnc, hl, fun _ => ⟨g, 0, rfl, (hlt g rfl).2, fun i x hx j v hv => ?_⟩⟩
    have := hc (g := g) rfl (i * size + j) v (flat_at hsz xs i j x v hx hv)
    have hadd : ∀ k, (⟨g, 0, none⟩ : Addr).add k = ⟨g, k, none⟩ := fun k => by unfold Addr.add; split <;> simp_all
    rw [hadd] at this
    rw [Nat.zero_add]; exact this
theorem int_one (n : Int) : (#[Value.int .i64 n] : Array Value).all (·.oneCell') = true := by
  rw [List.all_toArray]; rfl
theorem info3 : (Try.prog.info? 3).map (fun i => (i.zero, i.size, i.bytes)) = some (some (.int .i64 0), 1, 8) := by kernel_rfl
end Go.Proofs.Ytikjelkehcnjmaa
