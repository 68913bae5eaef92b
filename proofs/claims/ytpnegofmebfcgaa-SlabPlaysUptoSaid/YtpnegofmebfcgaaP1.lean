/- Slab of pointers: a slab into which the addresses of a row's numbers were put, one behind the other, some dropped again. -/
import Derived.Test.YtpnegofmebfcgaaUA
import Derived.Test.YtpnegofmebfcgaaUB
import Derived.Test.YtpnegofmebfcgaaUC
namespace Go.Proofs.Ytpnegofmebfcgaa
open Go.RowKit
set_option linter.unusedVariables false

/-- the address of number j -/
def adr (gN j : Nat) : Value := .pointer (some ⟨gN, j, none⟩)
def aslot (gN : Nat) (gone : List Bool) (j : Nat) : SL :=
  if j < gone.length then (if gone.getD j false then ⟨j, 1, false, .pointer none⟩ else ⟨j, 1, true, adr gN j⟩) else ⟨0, 0, false, .pointer none⟩
def aslots (gN : Nat) (gone : List Bool) : List SL := (List.range 4096).map (aslot gN gone)
def ahandles (k : Nat) : List (Int × Int) := (List.range k).map fun j : Nat => ((j : Int), (1 : Int))

theorem a_len (gN : Nat) (gone : List Bool) : (aslots gN gone).length = 4096 := by unfold aslots; rw [List.length_map, List.length_range]
theorem a_at (gN : Nat) (gone : List Bool) {j : Nat} (hj : j < 4096) : (aslots gN gone)[j]? = some (aslot gN gone j) := by
  unfold aslots; rw [List.getElem?_map, List.getElem?_range hj]; rfl
theorem h_len (k : Nat) : (ahandles k).length = k := by unfold ahandles; rw [List.length_map, List.length_range]
theorem h_at {k j : Nat} (hj : j < k) : (ahandles k)[j]? = some ((j : Int), 1) := by
  unfold ahandles; rw [List.getElem?_map, List.getElem?_range hj]; rfl
theorem h_next (k : Nat) : ahandles k ++ [((k : Int), 1)] = ahandles (k + 1) := by
  unfold ahandles; rw [List.range_succ, List.map_append]; rfl
theorem a_start (gN : Nat) : aslots gN [] = List.replicate 4096 ⟨0, 0, false, .pointer none⟩ := by
  apply List.ext_getElem?
  intro j
  by_cases hj : j < 4096
  · rw [a_at gN [] hj, List.getElem?_replicate, if_pos hj]; rfl
  · rw [List.getElem?_eq_none (by rw [a_len]; omega), List.getElem?_eq_none (by rw [List.length_replicate]; omega)]
theorem aslot_free (gN : Nat) (gone : List Bool) {j : Nat} (hj : gone.length ≤ j) : aslot gN gone j = ⟨0, 0, false, .pointer none⟩ := by unfold aslot; rw [if_neg (by omega)]
theorem aslot_in (gN : Nat) (gone : List Bool) {j : Nat} {b : Bool} (h : gone[j]? = some b) : aslot gN gone j = if b then ⟨j, 1, false, .pointer none⟩ else ⟨j, 1, true, adr gN j⟩ := by
  have hj := (List.getElem?_eq_some_iff.1 h).1
  unfold aslot; rw [if_pos hj, List.getD_eq_getElem?_getD, h]; rfl
theorem a_put (gN : Nat) (gone : List Bool) (hk : gone.length < 4096) : (aslots gN gone).set gone.length ⟨gone.length, 1, true, adr gN gone.length⟩ = aslots gN (gone ++ [false]) := by
  apply List.ext_getElem?
  intro j
  by_cases hj : j < 4096
  · rw [List.getElem?_set, a_at _ _ hj, a_at _ _ hj, a_len]
    by_cases e : gone.length = j
    · subst e
      rw [if_pos rfl, if_pos hk, aslot_in (b := false) gN _ (by rw [List.getElem?_append_right (Nat.le_refl _), Nat.sub_self]; rfl)]; rfl
    · rw [if_neg e]
      by_cases hl : j < gone.length
      · obtain ⟨b, hb⟩ : ∃ b, gone[j]? = some b := ⟨_, List.getElem?_eq_getElem hl⟩
        rw [aslot_in gN gone hb, aslot_in gN (gone ++ [false]) (b := b) (by rw [List.getElem?_append_left hl]; exact hb)]
      · rw [aslot_free gN gone (by omega), aslot_free gN _ (by rw [List.length_append, List.length_singleton]; omega)]
  · rw [List.getElem?_eq_none (by rw [List.length_set, a_len]; omega), List.getElem?_eq_none (by rw [a_len]; omega)]
theorem a_drop (gN : Nat) (gone : List Bool) {k : Nat} (hk : k < 4096) (hg : gone[k]? = some false) : (aslots gN gone).set k ⟨k, 1, false, .pointer none⟩ = aslots gN (gone.set k true) := by
  apply List.ext_getElem?
  intro j
  have hl := (List.getElem?_eq_some_iff.1 hg).1
  by_cases hj : j < 4096
  · rw [List.getElem?_set, a_at _ _ hj, a_at _ _ hj, a_len]
    by_cases e : k = j
    · subst e
      rw [if_pos rfl, if_pos hj, aslot_in (b := true) gN _ (by rw [List.getElem?_set, if_pos rfl, if_pos hl])]; rfl
    · rw [if_neg e]
      by_cases hl2 : j < gone.length
      · obtain ⟨b, hb⟩ : ∃ b, gone[j]? = some b := ⟨_, List.getElem?_eq_getElem hl2⟩
        rw [aslot_in gN gone hb, aslot_in gN (gone.set k true) (b := b) (by rw [List.getElem?_set, if_neg e]; exact hb)]
      · rw [aslot_free gN gone (by omega), aslot_free gN _ (by rw [List.length_set]; omega)]
  · rw [List.getElem?_eq_none (by rw [List.length_set, a_len]; omega), List.getElem?_eq_none (by rw [a_len]; omega)]
/-- what All hands out -/
def AGood (gN : Nat) (gone : List Bool) (s : SL) : Prop := ∃ j : Nat, gone[j]? = some false ∧ s = ⟨j, 1, true, adr gN j⟩
theorem a_good (gN : Nat) (gone : List Bool) (s : SL) (hs : s ∈ aslots gN gone) (hf : s.full = true) : AGood gN gone s := by
  unfold aslots at hs
  obtain ⟨j, hj, rfl⟩ := List.mem_map.1 hs
  by_cases hl : j < gone.length
  · obtain ⟨b, hb⟩ : ∃ b, gone[j]? = some b := ⟨_, List.getElem?_eq_getElem hl⟩
    rw [aslot_in gN gone hb] at hf ⊢
    cases b
    · exact ⟨j, hb, rfl⟩
    · cases hf
  · rw [aslot_free gN gone (by omega)] at hf; cases hf
theorem a_ptr (gN : Nat) (gone : List Bool) : ∀ s ∈ aslots gN gone, ∃ b : Option Addr, s.x = .pointer b := by
  intro s hs
  unfold aslots at hs
  obtain ⟨j, hj, rfl⟩ := List.mem_map.1 hs
  unfold aslot
  split
  · split
    · exact ⟨_, rfl⟩
    · exact ⟨_, rfl⟩
  · exact ⟨_, rfl⟩

section
variable {ps g gN : Nat} {gone : List Bool} {w : World}
theorem put_a (hS : SlabAt 97 w ps g (aslots gN gone)) (hk : gone.length < 4096) (hall : ∀ (j : Nat) (b : Bool), gone[j]? = some b → b = false) :
    Calls Try.prog 10 #[.pointer (some ⟨ps, 0, none⟩), .pointer (some ⟨gN, gone.length, none⟩)] w (Turns 97 ps g (.tuple #[.agg #[.int .i64 (gone.length : Int), .int .i64 1], .int .i64 0]) (aslots gN (gone ++ [false])) w) := by
  refine (putp_hit ps g gone.length _ ⟨0, 0, false, .pointer none⟩ (some ⟨gN, gone.length, none⟩) w hS (by rw [a_at _ _ hk, aslot_free _ _ (Nat.le_refl _)]) rfl (fun j s hj hs => ?_) (by rw [a_len]; decide) (by decide) (by decide)).mono ?_
  · rw [a_at _ _ (by omega)] at hs
    obtain ⟨b, hb⟩ : ∃ b, gone[j]? = some b := ⟨_, List.getElem?_eq_getElem hj⟩
    have := hall j b hb
    subst this
    rw [aslot_in _ _ hb] at hs; cases hs; rfl
  · rintro e w' ⟨he, hg, hS'⟩
    have e1 : (aslots gN gone).set gone.length ⟨(gone.length : Int), (0 : Int) + 1, true, .pointer (some ⟨gN, gone.length, none⟩)⟩ = aslots gN (gone ++ [false]) := a_put gN gone hk
    exact ⟨he, hg, e1 ▸ hS'⟩
theorem find_a {k : Nat} (hk : k < 4096) {b : Bool} (hb : gone[k]? = some b) : ∀ w, SlabAt 97 w ps g (aslots gN gone) →
    Calls Try.prog 40 #[.pointer (some ⟨ps, 0, none⟩), .agg #[.int .i64 (k : Int), .int .i64 1]] w (Gives (.pointer (if b then none else some ⟨g, k * 4, none⟩)) w) := by
  intro w hS
  have h1 := a_at gN gone hk
  rw [aslot_in gN gone hb] at h1
  cases b
  · exact findp_hit ps g _ k _ 1 w hS h1 rfl rfl rfl
  · exact findp_free ps g _ k _ 1 w hS h1 rfl
theorem drop_a {k : Nat} (hk : k < 4096) {b : Bool} (hb : gone[k]? = some b) (hS : SlabAt 97 w ps g (aslots gN gone)) :
    Calls Try.prog 12 #[.pointer (some ⟨ps, 0, none⟩), .agg #[.int .i64 (k : Int), .int .i64 1]] w (Turns 97 ps g (.tuple #[.pointer (if b then none else some ⟨gN, k, none⟩), .bool (!b)]) (aslots gN (gone.set k true)) w) := by
  have K := find_a (ps := ps) (g := g) (gN := gN) hk hb
  have h1 := a_at gN gone hk
  rw [aslot_in gN gone hb] at h1
  cases b
  · refine (dropp_hit ps g k _ _ k 1 w hS h1 K).mono ?_
    rintro e w' ⟨he, hg, hS'⟩
    have e1 : (aslots gN gone).set k ⟨(k : Int), 1, false, .pointer none⟩ = aslots gN (gone.set k true) := a_drop gN gone hk hb
    exact ⟨he, hg, e1 ▸ hS'⟩
  · rw [set_same gone k true hb]
    exact Calls.turns hS (dropp_miss ps g _ k 1 w hS K)
theorem get_a {k : Nat} (hk : k < 4096) {b : Bool} (hb : gone[k]? = some b) (hS : SlabAt 97 w ps g (aslots gN gone)) :
    Calls Try.prog 13 #[.pointer (some ⟨ps, 0, none⟩), .agg #[.int .i64 (k : Int), .int .i64 1]] w (Turns 97 ps g (.tuple #[.pointer (if b then none else some ⟨gN, k, none⟩), .bool (!b)]) (aslots gN gone) w) := by
  have K := find_a (ps := ps) (g := g) (gN := gN) hk hb
  have h1 := a_at gN gone hk
  rw [aslot_in gN gone hb] at h1
  cases b
  · exact Calls.turns hS (getp_hit ps g k _ _ k 1 w hS h1 K)
  · exact Calls.turns hS (getp_miss ps g _ k 1 w hS K)
theorem len_a (hS : SlabAt 97 w ps g (aslots gN gone)) : Calls Try.prog 15 #[.pointer (some ⟨ps, 0, none⟩)] w (Turns 97 ps g (.int .i64 ((aslots gN gone).filter (·.full)).length) (aslots gN gone) w) :=
  Calls.turns hS (len_p ps g _ (by rw [a_len]; decide) (by rw [a_len]; decide) (a_ptr gN gone) w hS)
end
end Go.Proofs.Ytpnegofmebfcgaa
