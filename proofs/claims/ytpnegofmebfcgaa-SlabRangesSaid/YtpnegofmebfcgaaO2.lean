/- Slab of ints: what its methods answer to a handle that was told; round. -/
import Derived.Test.YtpnegofmebfcgaaUA
import Derived.Test.YtpnegofmebfcgaaUB
import Derived.Test.YtpnegofmebfcgaaUC
namespace Go.Proofs.Ytpnegofmebfcgaa
open Go.RowKit
set_option linter.unusedVariables false

section
variable {l : List SL} {told : List (Int × Int)} {here : List Bool} {ps g k : Nat} {p : Int × Int} {w : World}

/-- what find answers to a handle that was told -/
theorem find_told (h : OInv l told here) (hp : told[k]? = some p) : ∃ (j : Nat) (t : SL) (b : Bool), p.1 = j ∧ l[j]? = some t ∧ here[k]? = some b ∧
    ((b = true ∧ t.full = true ∧ t.gen = p.2 ∧ ∀ w, SlabAt 120 w ps g l → Calls Try.prog 51 #[.pointer (some ⟨ps, 0, none⟩), .agg #[.int .i64 p.1, .int .i64 p.2]] w (Gives (.pointer (some ⟨g, j * 4, none⟩)) w)) ∨
     (b = false ∧ ∀ w, SlabAt 120 w ps g l → Calls Try.prog 51 #[.pointer (some ⟨ps, 0, none⟩), .agg #[.int .i64 p.1, .int .i64 p.2]] w (Gives (.pointer none) w))) := by
  obtain ⟨j, t, e, ht, hg, hh⟩ := h.at_ k p hp
  obtain ⟨_, _, _, hsl⟩ := h.slot j t ht
  obtain ⟨p1, p2⟩ := p
  simp only at e hg hh ⊢
  subst e
  refine ⟨j, t, _, rfl, ht, hh, ?_⟩
  cases hf : t.full with
  | false => exact .inr ⟨rfl, fun w hw => findi_free ps g l j t p2 w hw ht hf⟩
  | true =>
    by_cases hgen : t.gen = p2
    · exact .inl ⟨by simp [hgen], rfl, hgen, fun w hw => findi_hit ps g l j t p2 w hw ht hf (hsl hf) hgen⟩
    · exact .inr ⟨by simp [hgen], fun w hw => findi_old ps g l j t p2 w hw ht hf (hsl hf) hgen⟩

theorem get_told (h : OInv l told here) (hS : SlabAt 120 w ps g l) (hp : told[k]? = some p) {b : Bool} (hb : here[k]? = some b) :
    ∃ x : Int, Calls Try.prog 37 #[.pointer (some ⟨ps, 0, none⟩), .agg #[.int .i64 p.1, .int .i64 p.2]] w (Gives (.tuple #[.int .i64 x, .bool b]) w) := by
  obtain ⟨j, t, b', e, ht, hh, hK⟩ := find_told (ps := ps) (g := g) h hp
  rw [hb] at hh; cases hh
  obtain ⟨_, _, ⟨x, hx⟩, _⟩ := h.slot j t ht
  rcases hK with ⟨rfl, _, _, K⟩ | ⟨rfl, K⟩
  · have := geti_hit ps g j l t p.1 p.2 w hS ht K
    rw [hx] at this
    exact ⟨x, this⟩
  · exact ⟨0, geti_miss ps g l p.1 p.2 w hS K⟩

theorem set_told (h : OInv l told here) (hS : SlabAt 120 w ps g l) (hp : told[k]? = some p) {b : Bool} (hb : here[k]? = some b) (z : Int) :
    Calls Try.prog 38 #[.pointer (some ⟨ps, 0, none⟩), .agg #[.int .i64 p.1, .int .i64 p.2], .int .i64 z] w fun e w' => e = .returned (.bool b) ∧ w.grownBy w' (some g) ∧ ∃ l', SlabAt 120 w' ps g l' ∧ OInv l' told here := by
  obtain ⟨j, t, b', e, ht, hh, hK⟩ := find_told (ps := ps) (g := g) h hp
  rw [hb] at hh; cases hh
  rcases hK with ⟨rfl, _, _, K⟩ | ⟨rfl, K⟩
  · exact (seti_hit ps g j l t p.1 p.2 z w hS ht K).mono fun e w' ⟨he, hg, hS'⟩ => ⟨he, hg, _, hS', h.setx ht z⟩
  · exact (Calls.turns hS (seti_miss ps g l p.1 p.2 z w hS K)).mono fun e w' ⟨he, hg, hS'⟩ => ⟨he, hg, _, hS', h⟩

theorem drop_told (h : OInv l told here) (hS : SlabAt 120 w ps g l) (hp : told[k]? = some p) {b : Bool} (hb : here[k]? = some b) :
    Calls Try.prog 34 #[.pointer (some ⟨ps, 0, none⟩), .agg #[.int .i64 p.1, .int .i64 p.2]] w fun e w' => ∃ (x : Int) (l' : List SL), e = .returned (.tuple #[.int .i64 x, .bool b]) ∧ w.grownBy w' (some g) ∧ SlabAt 120 w' ps g l' ∧ OInv l' told (here.set k false) ∧
      l'.length = l.length ∧ (l'.filter (·.full)).length + (if b then 1 else 0) = (l.filter (·.full)).length := by
  obtain ⟨j, t, b', e, ht, hh, hK⟩ := find_told (ps := ps) (g := g) h hp
  rw [hb] at hh; cases hh
  obtain ⟨_, _, ⟨x, hx⟩, _⟩ := h.slot j t ht
  rcases hK with ⟨rfl, hf, hgen, K⟩ | ⟨rfl, K⟩
  · have := dropi_hit ps g j l t p.1 p.2 w hS ht K
    rw [hx] at this
    refine this.mono fun e' w' ⟨he, hg, hS'⟩ => ⟨x, _, he, hg, hS', h.drop hp e ht hgen 0, by rw [List.length_set], ?_⟩
    have hc := count_set l j t { t with full := false, x := .int .i64 0 } ht
    rw [hf] at hc
    simpa using hc
  · have e2 : here.set k false = here := set_same here k false hb
    rw [e2]
    exact (Calls.turns hS (dropi_miss ps g l p.1 p.2 w hS K)).mono fun e w' ⟨he, hg, hS'⟩ => ⟨0, l, he, hg, hS', h, rfl, by simp⟩

theorem put_room (h : OInv l told here) (hS : SlabAt 120 w ps g l) (hm : l.length ≤ 4096) (ht : told.length ≤ 1048576) (hr : (l.filter (·.full)).length < l.length) (z : Int) :
    ∃ (i : Nat) (s : SL), l[i]? = some s ∧ s.full = false ∧ (i : Int) < l.length ∧ (l.set i ⟨i, s.gen + 1, true, .int .i64 z⟩).length = l.length ∧
      ((l.set i ⟨i, s.gen + 1, true, .int .i64 z⟩).filter (·.full)).length = (l.filter (·.full)).length + 1 ∧
      Calls Try.prog 33 #[.pointer (some ⟨ps, 0, none⟩), .int .i64 z] w (Turns 120 ps g (.tuple #[.agg #[.int .i64 (i : Int), .int .i64 (s.gen + 1)], .int .i64 0]) (l.set i ⟨i, s.gen + 1, true, .int .i64 z⟩) w) := by
  obtain ⟨i, s, hs, hf, hb⟩ := first_free l hr
  obtain ⟨h1, h2, _⟩ := h.slot i s hs
  have hi := (List.getElem?_eq_some_iff.1 hs).1
  refine ⟨i, s, hs, hf, by omega, by rw [List.length_set], ?_, puti_hit ps g i l s z w hS hs hf hb hm h1 (by omega)⟩
  have hc := count_set l i s ⟨i, s.gen + 1, true, .int .i64 z⟩ hs
  rw [hf] at hc
  simpa using hc

theorem put_none (hS : SlabAt 120 w ps g l) (hm : l.length ≤ 4096) (h0 : 0 < l.length) (hr : ¬ (l.filter (·.full)).length < l.length) (z : Int) :
    Calls Try.prog 33 #[.pointer (some ⟨ps, 0, none⟩), .int .i64 z] w (Turns 120 ps g (.tuple #[.agg #[.int .i64 0, .int .i64 0], .int .i64 132]) l w) :=
  Calls.turns hS (puti_full ps g l z w hS (all_full l hr) hm h0)

theorem xs_told (h : OInv l told here) : ∀ s ∈ l, ∃ b : Int, s.x = .int .i64 b := fun s hs => by
  obtain ⟨j, hj⟩ := List.mem_iff_getElem?.1 hs
  exact (h.slot j s hj).2.2.1
theorem len_told (h : OInv l told here) (hS : SlabAt 120 w ps g l) (hm : l.length ≤ 4096) (h0 : 0 < l.length) :
    Calls Try.prog 35 #[.pointer (some ⟨ps, 0, none⟩)] w (Turns 120 ps g (.int .i64 (l.filter (·.full)).length) l w) :=
  Calls.turns hS (len_i ps g l hm h0 (xs_told h) w hS)
theorem room_told (h : OInv l told here) (hS : SlabAt 120 w ps g l) (hm : l.length ≤ 4096) (h0 : 0 < l.length) :
    Calls Try.prog 36 #[.pointer (some ⟨ps, 0, none⟩)] w (Turns 120 ps g (.int .i64 ((l.length : Int) - (l.filter (·.full)).length)) l w) :=
  Calls.turns hS (room_i ps g l hm h0 (xs_told h) w hS)
end

/-- the law's own round -/
def rnd (k n : Int) : Int := if k.tmod n < 0 then k.tmod n + n else k.tmod n
theorem rnd_in (k n : Int) (h : 0 < n) : 0 ≤ rnd k n ∧ rnd k n < n := by
  have h1 := Int.tmod_lt_of_pos k h
  have h2 : -n < k.tmod n := by
    have := Int.lt_tmod_of_pos k h
    omega
  unfold rnd
  split <;> omega
set_option maxHeartbeats 1000000 in
theorem round_ok (k n : Int) (w : World) (h : 0 < n) (hn : n ≤ 4611686018427387904) : Calls Try.prog 11 #[.int .i64 k, .int .i64 n] w (Keeps (.int .i64 (rnd k n)) w) := by
  have h1 := Int.tmod_lt_of_pos k h
  have h2 := Int.lt_tmod_of_pos k h
  have h0 : ¬ n = 0 := by omega
  go_enter Try.func11, Try.ntmps11
  go_wp2
  · rw [show rnd k n = k.tmod n + n by unfold rnd; rw [if_pos (by assumption)]]
    go_ret
    exact keeps_eq rfl
  · rw [show rnd k n = k.tmod n by unfold rnd; rw [if_neg (by omega)]]
    go_ret
    exact keeps_eq rfl
end Go.Proofs.Ytpnegofmebfcgaa
