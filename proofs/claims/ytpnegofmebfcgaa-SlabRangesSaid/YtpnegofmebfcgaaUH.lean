/- Slab, base: the reference's slab. Merged texts. -/
import Derived.Test.YtpnegofmebfcgaaUA
import Derived.Lib.Hide
import Derived.OneCell
import Derived.Deep.AppendLies
import Derived.Deep.RegionLaw
import Derived.OwnWalk
/- The reference's slab: what was put, as a row of the reference's own. -/
namespace Go.Proofs.Ytpnegofmebfcgaa
open Go.RowKit
attribute [local go_sem] BW.cell BW.frozen
set_option linter.unusedVariables false
set_option linter.unusedSimpArgs false

/-- a thing that was put -/
structure HV where
  s : Int
  g : Int
  x : ByteArray
  gone : Bool
def hvs : List HV → List Value
  | [] => []
  | e :: r => .int .i64 e.s :: .int .i64 e.g :: .string e.x :: .bool e.gone :: hvs r
theorem hvs_app (a b : List HV) : hvs (a ++ b) = hvs a ++ hvs b := by
  induction a with
  | nil => rfl
  | cons p r ih => simp [hvs, ih]
theorem hvs_len : ∀ a : List HV, (hvs a).length = a.length * 4
  | [] => rfl
  | _ :: r => by simp only [hvs, List.length_cons, hvs_len r]; omega
theorem hvs_at : ∀ (a : List HV) (i : Nat) (e : HV), a[i]? = some e → (hvs a)[i * 4]? = some (.int .i64 e.s) ∧ (hvs a)[i * 4 + 1]? = some (.int .i64 e.g) ∧ (hvs a)[i * 4 + 2]? = some (.string e.x) ∧ (hvs a)[i * 4 + 3]? = some (.bool e.gone)
  | [], i, p, h => by simp at h
  | q :: r, 0, p, h => by simp at h; subst h; exact ⟨rfl, rfl, rfl, rfl⟩
  | q :: r, i + 1, p, h => by
    have := hvs_at r i p (by simpa using h)
    have e : (i + 1) * 4 = i * 4 + 1 + 1 + 1 + 1 := by omega
    rw [e]
    simpa [hvs] using this
theorem hvs_x : ∀ (l : List HV) (i : Nat) (e : HV) (z : ByteArray), l[i]? = some e → hvs (l.set i { e with x := z }) = (hvs l).set (i * 4 + 2) (.string z)
  | [], i, s, z, h => by simp at h
  | q :: r, 0, s, z, h => by simp at h; subst h; rfl
  | q :: r, i + 1, s, z, h => by
    have := hvs_x r i s z (by simpa using h)
    have e : (i + 1) * 4 = i * 4 + 1 + 1 + 1 + 1 := by omega
    rw [e]
    simp [hvs, this]
theorem hvs_gone : ∀ (l : List HV) (i : Nat) (e : HV) (z : Bool), l[i]? = some e → hvs (l.set i { e with gone := z }) = (hvs l).set (i * 4 + 3) (.bool z)
  | [], i, s, z, h => by simp at h
  | q :: r, 0, s, z, h => by simp at h; subst h; rfl
  | q :: r, i + 1, s, z, h => by
    have := hvs_gone r i s z (by simpa using h)
    have e : (i + 1) * 4 = i * 4 + 1 + 1 + 1 + 1 := by omega
    rw [e]
    simp [hvs, this]

/-- the reference's slab at ⟨bm, o⟩: n slots, all that was put -/
structure RefAt (B : Nat) (w : World) (bm o : Nat) (v : Value) (n : Int) (all : List HV) : Prop where
  c0 : w.cell? ⟨bm, o, none⟩ = some (.int .i64 n)
  c1 : w.cell? ⟨bm, o + 1, none⟩ = some v
  f1 : w.frozen? ⟨bm, o + 1, none⟩ = false
  row : w.ownsRow B 82 4 v all.length (hvs all)
  low : bm < B ∧ B ≤ w.heap.size

section
variable {B : Nat} {w w' : World} {bm o : Nat} {v : Value} {n : Int} {all : List HV}
theorem RefAt.below (h : RefAt B w bm o v n all) (hb : Below w.heap.size w w') : RefAt B w' bm o v n all := by
  have hl : bm < w.heap.size := Nat.lt_of_lt_of_le h.low.1 h.low.2
  refine ⟨(hb.cell (p := ⟨bm, o, none⟩) hl).trans h.c0, (hb.cell (p := ⟨bm, o + 1, none⟩) hl).trans h.c1, (hb.frozen (p := ⟨bm, o + 1, none⟩) hl).trans h.f1, h.row.kept (below_grown (row := none) hb) ?_, h.low.1, Nat.le_trans h.low.2 hb.size⟩
  cases v.ownBlock <;> simp
theorem RefAt.alloc (h : RefAt B w bm o v n all) (ob : Obj) : RefAt B (w.alloc ob) bm o v n all := h.below ((Below.refl w.heap.size w).alloc (Nat.le_refl _) ob)
theorem RefAt.len (h : RefAt B w bm o v n all) : ∃ A c, v = .slice A all.length c ∧ (0 < all.length → ∃ k, A = some ⟨k, 0, none⟩ ∧ B ≤ k ∧ k < w.heap.size) := by
  rcases Nat.eq_zero_or_pos all.length with h0 | h0
  · rcases h.row.2 with ⟨hv, _⟩ | ⟨g, cap, cur, hv, _⟩
    · exact ⟨none, 0, by rw [hv, h0], fun h => absurd h (by omega)⟩
    · exact ⟨_, _, hv, fun h => absurd h (by omega)⟩
  · obtain ⟨k, c, rfl, h1, h2⟩ := h.row.form h0
    exact ⟨_, _, rfl, fun _ => ⟨k, rfl, h1, h2⟩⟩
theorem RefAt.at (h : RefAt B w bm o v n all) {k c m : Nat} (e : v = .slice (some ⟨k, 0, none⟩) m c) {i : Nat} {x : HV} (hx : all[i]? = some x) :
    w.cell? ⟨k, i * 4, none⟩ = some (.int .i64 x.s) ∧ w.cell? ⟨k, i * 4 + 1, none⟩ = some (.int .i64 x.g) ∧ w.cell? ⟨k, i * 4 + 2, none⟩ = some (.string x.x) ∧ w.cell? ⟨k, i * 4 + 3, none⟩ = some (.bool x.gone) := by
  have hi := (List.getElem?_eq_some_iff.1 hx).1
  obtain ⟨k', c', e', _, _⟩ := h.row.form (by omega)
  rw [e'] at e
  injection e with e1 e2 e3
  injection e1 with e1
  injection e1 with e1
  subst e1
  have hr := h.row
  rw [e'] at hr
  obtain ⟨a0, a1, a2, a3⟩ := hvs_at all i x hx
  exact ⟨by rw [hr.cellAt _ (by omega)]; exact a0, by rw [hr.cellAt _ (by omega)]; exact a1, by rw [hr.cellAt _ (by omega)]; exact a2, by rw [hr.cellAt _ (by omega)]; exact a3⟩
end

set_option maxHeartbeats 4000000 in
theorem in_hit (B bm o : Nat) (v : Value) (n : Int) (all : List HV) (slot : Int) (i : Nat) (e : HV) (w : World) (h : RefAt B w bm o v n all) (hi : all[i]? = some e) (hs : e.s = slot) (hg : e.gone = false)
    (hb : ∀ (j : Nat) (u : HV), j < i → all[j]? = some u → u.s = slot → u.gone = true) (hm : all.length ≤ 9223372036854775807) :
    Calls Try.prog 47 #[.pointer (some ⟨bm, o, none⟩), .int .i64 slot] w (Gives (.int .i64 i) w) := by
  have hil : i < all.length := (List.getElem?_eq_some_iff.1 hi).1
  obtain ⟨A, c, rfl, hA⟩ := h.len
  obtain ⟨k, rfl, hk1, hk2⟩ := hA (by omega)
  have HH := Lib.hid h
  have HB := Lib.hid hb
  have HI := Lib.hid hi
  have c1 := h.c1
  have lm : bm < w.heap.size := Nat.lt_of_lt_of_le h.low.1 h.low.2
  clear h hb hi hA
  generalize hlen : all.length = len at *
  go_enter Try.func47, Try.ntmps47
  go_wp2_with fail
  go_loopw [5] (fun v wr => ∃ j : Nat, j ≤ i ∧ v = .int .i64 j ∧ Below w.heap.size w wr) (fun v _ => len - (intOf v).toNat)
  case atStart => exact ⟨0, Nat.zero_le _, rfl, Below.refl _ _⟩
  case round =>
    obtain ⟨j, hj, rfl, hbw⟩ := hrel
    have cc := (hbw.cell (p := ⟨bm, o + 1, none⟩) lm).trans c1
    by_cases hlt : j < i
    · obtain ⟨u, hu⟩ : ∃ u, all[j]? = some u := ⟨_, List.getElem?_eq_getElem (by omega)⟩
      obtain ⟨a0, a1, a2, a3⟩ := (HH.out.below hbw).at rfl hu
      have hjl : j < len := by omega
      clear c1
      by_cases hus : u.s = slot
      · rw [HB.out j u hlt hu hus] at a3
        have t : (u.s == slot) = true := by simpa using hus
        go_wp2
        go_roundw
        case rel => exact ⟨j + 1, hlt, by go_num, hbw⟩
        case measure => simp [intOf]; omega
      · have t : (u.s == slot) = false := by simpa using hus
        go_wp2
        go_roundw
        case rel => exact ⟨j + 1, hlt, by go_num, hbw⟩
        case measure => simp [intOf]; omega
    · obtain rfl : j = i := by omega
      obtain ⟨a0, a1, a2, a3⟩ := (HH.out.below hbw).at rfl HI.out
      rw [hg] at a3
      rw [hs] at a0
      clear c1
      go_wp2
      go_ret
      exact gives_of_eq rfl hbw

set_option maxHeartbeats 4000000 in
theorem in_miss (B bm o : Nat) (v : Value) (n : Int) (all : List HV) (slot : Int) (w : World) (h : RefAt B w bm o v n all)
    (hb : ∀ (j : Nat) (u : HV), all[j]? = some u → u.s = slot → u.gone = true) (hm : all.length ≤ 9223372036854775807) :
    Calls Try.prog 47 #[.pointer (some ⟨bm, o, none⟩), .int .i64 slot] w (Gives (.int .i64 (-1)) w) := by
  obtain ⟨A, c, rfl, hA⟩ := h.len
  have HH := Lib.hid h
  have HB := Lib.hid hb
  have HA := Lib.hid hA
  have c1 := h.c1
  have lm : bm < w.heap.size := Nat.lt_of_lt_of_le h.low.1 h.low.2
  clear h hb hA
  generalize hlen : all.length = len at *
  go_enter Try.func47, Try.ntmps47
  go_wp2_with fail
  go_loopw [5] (fun v wr => ∃ j : Nat, j ≤ len ∧ v = .int .i64 j ∧ Below w.heap.size w wr) (fun v _ => len - (intOf v).toNat)
  case atStart => exact ⟨0, Nat.zero_le _, rfl, Below.refl _ _⟩
  case round =>
    obtain ⟨j, hj, rfl, hbw⟩ := hrel
    have cc := (hbw.cell (p := ⟨bm, o + 1, none⟩) lm).trans c1
    by_cases hlt : j < len
    · obtain ⟨u, hu⟩ : ∃ u, all[j]? = some u := ⟨_, List.getElem?_eq_getElem (by omega)⟩
      obtain ⟨k, rfl, hk1, hk2⟩ := HA.out (by omega)
      obtain ⟨a0, a1, a2, a3⟩ := (HH.out.below hbw).at rfl hu
      clear c1
      by_cases hus : u.s = slot
      · rw [HB.out j u hu hus] at a3
        have t : (u.s == slot) = true := by simpa using hus
        go_wp2
        go_roundw
        case rel => exact ⟨j + 1, hlt, by go_num, hbw⟩
        case measure => simp [intOf]; omega
      · have t : (u.s == slot) = false := by simpa using hus
        go_wp2
        go_roundw
        case rel => exact ⟨j + 1, hlt, by go_num, hbw⟩
        case measure => simp [intOf]; omega
    · obtain rfl : j = len := by omega
      clear c1
      go_wp2
      go_ret
      exact gives_of_eq rfl hbw
end Go.Proofs.Ytpnegofmebfcgaa

/- The reference's Find, Get, Set, Drop. -/
namespace Go.Proofs.Ytpnegofmebfcgaa
open Go.RowKit
attribute [local go_sem] BW.cell BW.frozen
set_option linter.unusedVariables false
set_option linter.unusedSimpArgs false

set_option maxHeartbeats 8000000 in
theorem rfind_hit (B bm o : Nat) (v : Value) (n : Int) (all : List HV) (hs hg : Int) (i : Nat) (e : HV) (w : World) (h : RefAt B w bm o v n all) (hi : all[i]? = some e) (es : e.s = hs) (eg : e.g = hg) (hgone : e.gone = false)
    (hb : ∀ (j : Nat) (u : HV), j < i → all[j]? = some u → u.s = hs → u.g = hg → u.gone = true) (hm : all.length ≤ 9223372036854775807) :
    Calls Try.prog 50 #[.pointer (some ⟨bm, o, none⟩), .agg #[.int .i64 hs, .int .i64 hg]] w (Gives (.int .i64 i) w) := by
  have hil : i < all.length := (List.getElem?_eq_some_iff.1 hi).1
  obtain ⟨A, c, rfl, hA⟩ := h.len
  have h0 := h.alloc (.cells #[.int .i64 hs, .int .i64 hg] 32)
  have q0 : (w.alloc (.cells #[.int .i64 hs, .int .i64 hg] 32)).cell? ⟨w.heap.size, 0, none⟩ = some (.int .i64 hs) := by simp [go_sem]
  have q1 : (w.alloc (.cells #[.int .i64 hs, .int .i64 hg] 32)).cell? ⟨w.heap.size, 1, none⟩ = some (.int .i64 hg) := by simp [go_sem]
  have qb : w.heap.size < (w.alloc (.cells #[.int .i64 hs, .int .i64 hg] 32)).heap.size := by simp
  have bW : Below w.heap.size w (w.alloc (.cells #[.int .i64 hs, .int .i64 hg] 32)) := (Below.refl _ w).alloc (Nat.le_refl _) _
  obtain ⟨k, rfl, hk1, hk2⟩ := hA (by omega)
  have HB := Lib.hid hb
  have HI := Lib.hid hi
  clear h hb hi hA
  go_enter Try.func50, Try.ntmps50
  go_wp2_with fail
  generalize hW0 : w.alloc (.cells #[.int .i64 hs, .int .i64 hg] 32) = W0 at *
  clear hW0
  have HH := Lib.hid h0
  have c1 := h0.c1
  have lm : bm < W0.heap.size := Nat.lt_of_lt_of_le h0.low.1 h0.low.2
  have lk : k < W0.heap.size := Nat.lt_of_lt_of_le hk2 (Nat.le_of_lt qb)
  clear h0
  generalize hlen : all.length = len at *
  go_loopw [5] (fun v wr => ∃ j : Nat, j ≤ i ∧ v = .int .i64 j ∧ Below W0.heap.size W0 wr) (fun v _ => len - (intOf v).toNat)
  case atStart => exact ⟨0, Nat.zero_le _, rfl, Below.refl _ _⟩
  case round =>
    obtain ⟨j, hj, rfl, hbw⟩ := hrel
    have cc := (hbw.cell (p := ⟨bm, o + 1, none⟩) lm).trans c1
    by_cases hlt : j < i
    · obtain ⟨u, hu⟩ : ∃ u, all[j]? = some u := ⟨_, List.getElem?_eq_getElem (by omega)⟩
      obtain ⟨a0, a1, a2, a3⟩ := HH.out.at rfl hu
      have hjl : j < len := by omega
      by_cases hus : u.s = hs
      · subst hus
        by_cases hug : u.g = hg
        · subst hug
          rw [HB.out j u hlt hu rfl rfl] at a3
          go_wp2_with fail
          refine wp_region_bw W0.heap.size W0 hbw (by kernel_rfl) (by kernel_rfl) ?_
          repeat (go_big_quiet_step (fail))
          refine wpQuiet_nil ?_
          intro x
          go_wp2_with fail
          go_roundw
          case rel => exact ⟨j + 1, hlt, by go_num, x.h⟩
          case measure => simp [intOf]; omega
        · have t : (u.g == hg) = false := by simpa using hug
          go_wp2_with fail
          refine wp_region_bw W0.heap.size W0 hbw (by kernel_rfl) (by kernel_rfl) ?_
          repeat (go_big_quiet_step (fail))
          refine wpQuiet_nil ?_
          intro x
          go_wp2_with fail
          go_roundw
          case rel => exact ⟨j + 1, hlt, by go_num, x.h⟩
          case measure => simp [intOf]; omega
      · have t : (u.s == hs) = false := by simpa using hus
        go_wp2_with fail
        refine wp_region_bw W0.heap.size W0 hbw (by kernel_rfl) (by kernel_rfl) ?_
        repeat (go_big_quiet_step (fail))
        refine wpQuiet_nil ?_
        intro x
        go_wp2_with fail
        go_roundw
        case rel => exact ⟨j + 1, hlt, by go_num, x.h⟩
        case measure => simp [intOf]; omega
    · obtain rfl : j = i := by omega
      obtain ⟨a0, a1, a2, a3⟩ := HH.out.at rfl HI.out
      rw [hgone] at a3
      rw [es] at a0
      rw [eg] at a1
      go_wp2_with fail
      refine wp_region_bw W0.heap.size W0 hbw (by kernel_rfl) (by kernel_rfl) ?_
      repeat (go_big_quiet_step (fail))
      refine wpQuiet_nil ?_
      intro x
      go_wp2_with fail
      go_ret
      exact gives_of_eq rfl (bW.trans (x.h.mono (Nat.le_of_lt qb)))

set_option maxHeartbeats 8000000 in
theorem rfind_miss (B bm o : Nat) (v : Value) (n : Int) (all : List HV) (hs hg : Int) (w : World) (h : RefAt B w bm o v n all)
    (hb : ∀ (j : Nat) (u : HV), all[j]? = some u → u.s = hs → u.g = hg → u.gone = true) (hm : all.length ≤ 9223372036854775807) :
    Calls Try.prog 50 #[.pointer (some ⟨bm, o, none⟩), .agg #[.int .i64 hs, .int .i64 hg]] w (Gives (.int .i64 (-1)) w) := by
  obtain ⟨A, c, rfl, hA⟩ := h.len
  have h0 := h.alloc (.cells #[.int .i64 hs, .int .i64 hg] 32)
  have q0 : (w.alloc (.cells #[.int .i64 hs, .int .i64 hg] 32)).cell? ⟨w.heap.size, 0, none⟩ = some (.int .i64 hs) := by simp [go_sem]
  have q1 : (w.alloc (.cells #[.int .i64 hs, .int .i64 hg] 32)).cell? ⟨w.heap.size, 1, none⟩ = some (.int .i64 hg) := by simp [go_sem]
  have qb : w.heap.size < (w.alloc (.cells #[.int .i64 hs, .int .i64 hg] 32)).heap.size := by simp
  have bW : Below w.heap.size w (w.alloc (.cells #[.int .i64 hs, .int .i64 hg] 32)) := (Below.refl _ w).alloc (Nat.le_refl _) _
  have HB := Lib.hid hb
  have HA := Lib.hid hA
  clear h hb hA
  go_enter Try.func50, Try.ntmps50
  go_wp2_with fail
  generalize hW0 : w.alloc (.cells #[.int .i64 hs, .int .i64 hg] 32) = W0 at *
  clear hW0
  have HH := Lib.hid h0
  have c1 := h0.c1
  have lm : bm < W0.heap.size := Nat.lt_of_lt_of_le h0.low.1 h0.low.2
  clear h0
  generalize hlen : all.length = len at *
  go_loopw [5] (fun v wr => ∃ j : Nat, j ≤ len ∧ v = .int .i64 j ∧ Below W0.heap.size W0 wr) (fun v _ => len - (intOf v).toNat)
  case atStart => exact ⟨0, Nat.zero_le _, rfl, Below.refl _ _⟩
  case round =>
    obtain ⟨j, hj, rfl, hbw⟩ := hrel
    have cc := (hbw.cell (p := ⟨bm, o + 1, none⟩) lm).trans c1
    by_cases hlt : j < len
    · obtain ⟨u, hu⟩ : ∃ u, all[j]? = some u := ⟨_, List.getElem?_eq_getElem (by omega)⟩
      obtain ⟨k, rfl, hk1, hk2⟩ := HA.out (by omega)
      have lk : k < W0.heap.size := Nat.lt_of_lt_of_le hk2 (Nat.le_of_lt qb)
      obtain ⟨a0, a1, a2, a3⟩ := HH.out.at rfl hu
      by_cases hus : u.s = hs
      · subst hus
        by_cases hug : u.g = hg
        · subst hug
          rw [HB.out j u hu rfl rfl] at a3
          go_wp2_with fail
          refine wp_region_bw W0.heap.size W0 hbw (by kernel_rfl) (by kernel_rfl) ?_
          repeat (go_big_quiet_step (fail))
          refine wpQuiet_nil ?_
          intro x
          go_wp2_with fail
          go_roundw
          case rel => exact ⟨j + 1, hlt, by go_num, x.h⟩
          case measure => simp [intOf]; omega
        · have t : (u.g == hg) = false := by simpa using hug
          go_wp2_with fail
          refine wp_region_bw W0.heap.size W0 hbw (by kernel_rfl) (by kernel_rfl) ?_
          repeat (go_big_quiet_step (fail))
          refine wpQuiet_nil ?_
          intro x
          go_wp2_with fail
          go_roundw
          case rel => exact ⟨j + 1, hlt, by go_num, x.h⟩
          case measure => simp [intOf]; omega
      · have t : (u.s == hs) = false := by simpa using hus
        go_wp2_with fail
        refine wp_region_bw W0.heap.size W0 hbw (by kernel_rfl) (by kernel_rfl) ?_
        repeat (go_big_quiet_step (fail))
        refine wpQuiet_nil ?_
        intro x
        go_wp2_with fail
        go_roundw
        case rel => exact ⟨j + 1, hlt, by go_num, x.h⟩
        case measure => simp [intOf]; omega
    · obtain rfl : j = len := by omega
      go_wp2
      go_ret
      exact gives_of_eq rfl (bW.trans (hbw.mono (Nat.le_of_lt qb)))
end Go.Proofs.Ytpnegofmebfcgaa

/- The reference's Get, Set, Drop. -/
namespace Go.Proofs.Ytpnegofmebfcgaa
open Go.RowKit
attribute [local go_sem] BW.cell BW.frozen
set_option linter.unusedVariables false
set_option linter.unusedSimpArgs false

/-- what a call on a reference's slab leaves alone: all blocks but its own row and its own block; of that all cells but the row's -/
structure RTurn (bm o : Nat) (own : Option Nat) (w w' : World) : Prop where
  os : w'.os = w.os
  tape : w'.tape = w.tape
  output : w'.output = w.output
  size : w.heap.size ≤ w'.heap.size
  block : ∀ k, k < w.heap.size → k ≠ bm → some k ≠ own → w'.heap[k]? = w.heap[k]?
  cell : ∀ j, j ≠ o + 1 → w'.cell? ⟨bm, j, none⟩ = w.cell? ⟨bm, j, none⟩
  frozen : ∀ j, w'.frozen? ⟨bm, j, none⟩ = w.frozen? ⟨bm, j, none⟩
theorem RTurn.of_grown {bm o : Nat} {own : Option Nat} {w w' : World} (h : w.grownBy w' own) (hl : bm < w.heap.size) (hne : some bm ≠ own) : RTurn bm o own w w' :=
  ⟨h.os, h.tape, h.output, h.size, fun k hk _ h2 => h.block k hk h2, fun j _ => h.cell_far ⟨bm, j, none⟩ hl hne, fun j => h.frozen_far ⟨bm, j, none⟩ hl hne⟩
theorem RefAt.lm {B : Nat} {w : World} {bm o : Nat} {v : Value} {n : Int} {all : List HV} (h : RefAt B w bm o v n all) : bm < w.heap.size := Nat.lt_of_lt_of_le h.low.1 h.low.2
theorem RefAt.one {B : Nat} {w : World} {bm o : Nat} {v : Value} {n : Int} {all : List HV} (h : RefAt B w bm o v n all) : some bm ≠ v.ownBlock := fun e => by
  have := (h.row.lt bm e.symm).1
  have := h.low.1
  omega
/-- a cell of the row written -/
theorem RefAt.stored {B : Nat} {w : World} {bm o k c m : Nat} {n : Int} {all all' : List HV} (h : RefAt B w bm o (.slice (some ⟨k, 0, none⟩) m c) n all) (j : Nat) (u : Value) (hl : all'.length = all.length) (hv : hvs all' = (hvs all).set j u) :
    RefAt B (w.setCell ⟨k, j, none⟩ u) bm o (.slice (some ⟨k, 0, none⟩) m c) n all' := by
  have hb := h.low.1
  have hk := (h.row.lt k rfl).1
  have hm : all.length = m := by
    rcases h.row.2 with ⟨e, _⟩ | ⟨g, cap, cur, e, _⟩
    · cases e
    · injection e with _ e _; exact e.symm
  have hr := h.row
  rw [hm] at hr
  have hs := (hr.stored j u).1
  have hne : (⟨k, j, none⟩ : Addr).block ≠ bm := by show k ≠ bm; omega
  refine ⟨?_, ?_, ?_, ?_, hb, by simpa using h.low.2⟩
  · rw [World.cell?_setCell_other _ _ _ _ (fun e => hne (by injection e with e)), h.c0]
  · rw [World.cell?_setCell_other _ _ _ _ (fun e => hne (by injection e with e)), h.c1]
  · rw [World.frozen?_setCell]; exact h.f1
  · rw [hl, hm, hv]; exact hs

section
variable (B bm o : Nat) (v : Value) (n : Int) (all : List HV) (hs hg : Int) (w : World) (h : RefAt B w bm o v n all)
include h
set_option maxHeartbeats 4000000 in
theorem rget_miss (K : ∀ w, RefAt B w bm o v n all → Calls Try.prog 50 #[.pointer (some ⟨bm, o, none⟩), .agg #[.int .i64 hs, .int .i64 hg]] w (Gives (.int .i64 (-1)) w)) :
    Calls Try.prog 44 #[.pointer (some ⟨bm, o, none⟩), .agg #[.int .i64 hs, .int .i64 hg]] w (Gives (.tuple #[.string .empty, .bool false]) w) := by
  have HK := Lib.hid K
  have HH := Lib.hid h
  clear K h
  go_enter Try.func44, Try.ntmps44
  go_wp2_with fail
  refine (HK.out _ (HH.out.alloc _)).mono ?_
  rintro e W ⟨rfl, z, rfl⟩
  go_wp2_with fail
  go_ret2
  exact gives_of_eq rfl (((Below.refl _ w).alloc (Nat.le_refl _) _).trans (z.h.mono (by simp)))

set_option maxHeartbeats 4000000 in
theorem rset_miss (x : ByteArray) (K : ∀ w, RefAt B w bm o v n all → Calls Try.prog 50 #[.pointer (some ⟨bm, o, none⟩), .agg #[.int .i64 hs, .int .i64 hg]] w (Gives (.int .i64 (-1)) w)) :
    Calls Try.prog 46 #[.pointer (some ⟨bm, o, none⟩), .agg #[.int .i64 hs, .int .i64 hg], .string x] w (Gives (.bool false) w) := by
  have HK := Lib.hid K
  have HH := Lib.hid h
  clear K h
  go_enter Try.func46, Try.ntmps46
  go_wp2_with fail
  refine (HK.out _ (HH.out.alloc _)).mono ?_
  rintro e W ⟨rfl, z, rfl⟩
  go_wp2_with fail
  go_ret
  exact gives_of_eq rfl (((Below.refl _ w).alloc (Nat.le_refl _) _).trans (z.h.mono (by simp)))

set_option maxHeartbeats 4000000 in
theorem rdrop_miss (K : ∀ w, RefAt B w bm o v n all → Calls Try.prog 50 #[.pointer (some ⟨bm, o, none⟩), .agg #[.int .i64 hs, .int .i64 hg]] w (Gives (.int .i64 (-1)) w)) :
    Calls Try.prog 31 #[.pointer (some ⟨bm, o, none⟩), .agg #[.int .i64 hs, .int .i64 hg]] w (Gives (.tuple #[.string .empty, .bool false]) w) := by
  have HK := Lib.hid K
  have HH := Lib.hid h
  clear K h
  go_enter Try.func31, Try.ntmps31
  go_wp2_with fail
  refine (HK.out _ (HH.out.alloc _)).mono ?_
  rintro e W ⟨rfl, z, rfl⟩
  go_wp2_with fail
  go_ret2
  exact gives_of_eq rfl (((Below.refl _ w).alloc (Nat.le_refl _) _).trans (z.h.mono (by simp)))

variable (i : Nat) (e : HV) (hi : all[i]? = some e)
include hi
set_option maxHeartbeats 4000000 in
theorem rget_hit (K : ∀ w, RefAt B w bm o v n all → Calls Try.prog 50 #[.pointer (some ⟨bm, o, none⟩), .agg #[.int .i64 hs, .int .i64 hg]] w (Gives (.int .i64 i) w)) :
    Calls Try.prog 44 #[.pointer (some ⟨bm, o, none⟩), .agg #[.int .i64 hs, .int .i64 hg]] w (Gives (.tuple #[.string e.x, .bool true]) w) := by
  have hil : i < all.length := (List.getElem?_eq_some_iff.1 hi).1
  obtain ⟨A, c, rfl, hA⟩ := h.len
  obtain ⟨k, rfl, hk1, hk2⟩ := hA (by omega)
  have HK := Lib.hid K
  have HH := Lib.hid h
  have HI := Lib.hid hi
  clear K h hi hA
  go_enter Try.func44, Try.ntmps44
  go_wp2_with fail
  refine (HK.out _ (HH.out.alloc _)).mono ?_
  rintro e W ⟨rfl, z, rfl⟩
  have hz := (HH.out.alloc (.cells #[.int .i64 hs, .int .i64 hg] 32)).below z.h
  have bz : Below w.heap.size w z.i := ((Below.refl _ w).alloc (Nat.le_refl _) _).trans (z.h.mono (by simp))
  obtain ⟨a0, a1, a2, a3⟩ := hz.at rfl HI.out
  have c1 := hz.c1
  go_wp2_with fail
  go_ret2
  exact gives_of_eq rfl bz

set_option maxHeartbeats 4000000 in
theorem rset_hit (x : ByteArray) (K : ∀ w, RefAt B w bm o v n all → Calls Try.prog 50 #[.pointer (some ⟨bm, o, none⟩), .agg #[.int .i64 hs, .int .i64 hg]] w (Gives (.int .i64 i) w)) :
    Calls Try.prog 46 #[.pointer (some ⟨bm, o, none⟩), .agg #[.int .i64 hs, .int .i64 hg], .string x] w fun r w' => r = .returned (.bool true) ∧ RTurn bm o v.ownBlock w w' ∧ RefAt B w' bm o v n (all.set i { e with x := x }) := by
  have hil : i < all.length := (List.getElem?_eq_some_iff.1 hi).1
  obtain ⟨A, c, rfl, hA⟩ := h.len
  obtain ⟨k, rfl, hk1, hk2⟩ := hA (by omega)
  have HK := Lib.hid K
  have HH := Lib.hid h
  have HI := Lib.hid hi
  clear K h hi hA
  go_enter Try.func46, Try.ntmps46
  go_wp2_with fail
  refine (HK.out _ (HH.out.alloc _)).mono ?_
  rintro e W ⟨rfl, z, rfl⟩
  have hz := (HH.out.alloc (.cells #[.int .i64 hs, .int .i64 hg] 32)).below z.h
  have bz : Below w.heap.size w z.i := ((Below.refl _ w).alloc (Nat.le_refl _) _).trans (z.h.mono (by simp))
  obtain ⟨a0, a1, a2, a3⟩ := hz.at rfl HI.out
  have c1 := hz.c1
  have fx := hz.row.frozenAt (i * 4 + 2)
  go_wp2_with fail
  go_ret
  have hst := hz.stored (i * 4 + 2) (.string x) (List.length_set) (hvs_x all i e x HI.out)
  refine ⟨rfl, RTurn.of_grown ((below_grown bz).trans (grownBy_set _ _ _ _)) HH.out.lm HH.out.one, hst⟩
set_option maxHeartbeats 4000000 in
theorem rdrop_hit (K : ∀ w, RefAt B w bm o v n all → Calls Try.prog 50 #[.pointer (some ⟨bm, o, none⟩), .agg #[.int .i64 hs, .int .i64 hg]] w (Gives (.int .i64 i) w)) :
    Calls Try.prog 31 #[.pointer (some ⟨bm, o, none⟩), .agg #[.int .i64 hs, .int .i64 hg]] w fun r w' => r = .returned (.tuple #[.string e.x, .bool true]) ∧ RTurn bm o v.ownBlock w w' ∧ RefAt B w' bm o v n (all.set i { e with gone := true }) := by
  have hil : i < all.length := (List.getElem?_eq_some_iff.1 hi).1
  obtain ⟨A, c, rfl, hA⟩ := h.len
  obtain ⟨k, rfl, hk1, hk2⟩ := hA (by omega)
  have HK := Lib.hid K
  have HH := Lib.hid h
  have HI := Lib.hid hi
  clear K h hi hA
  go_enter Try.func31, Try.ntmps31
  go_wp2_with fail
  refine (HK.out _ (HH.out.alloc _)).mono ?_
  rintro e W ⟨rfl, z, rfl⟩
  have hz := (HH.out.alloc (.cells #[.int .i64 hs, .int .i64 hg] 32)).below z.h
  have bz : Below w.heap.size w z.i := ((Below.refl _ w).alloc (Nat.le_refl _) _).trans (z.h.mono (by simp))
  obtain ⟨a0, a1, a2, a3⟩ := hz.at rfl HI.out
  have c1 := hz.c1
  have fx := hz.row.frozenAt (i * 4 + 3)
  have hkb : bm ≠ k := by have := hz.low.1; omega
  go_wp2_with fail
  go_ret2
  have hst := hz.stored (i * 4 + 3) (.bool true) (List.length_set) (hvs_gone all i e true HI.out)
  refine ⟨rfl, RTurn.of_grown ((below_grown bz).trans (grownBy_set _ _ _ _)) HH.out.lm HH.out.one, hst⟩
end
end Go.Proofs.Ytpnegofmebfcgaa

/- The reference's Put. -/
namespace Go.Proofs.Ytpnegofmebfcgaa
open Go.RowKit
attribute [local go_sem] BW.cell BW.frozen
set_option linter.unusedVariables false
set_option linter.unusedSimpArgs false

theorem Try.info82 : (Try.prog.info? 82).map (fun i => (i.zero, i.size, i.bytes)) = some (some (.agg #[.int .i64 0, .int .i64 0, .string .empty, .bool false]), 4, 40) := by kernel_rfl
/-- how often a slot was used -/
def used (i : Nat) (l : List HV) : Nat := (l.filter fun e => e.s == (i : Int)).length
theorem used_next (i : Nat) (all : List HV) (k : Nat) (u : HV) (h : all[k]? = some u) : used i (all.take (k + 1)) = used i (all.take k) + (if u.s == (i : Int) then 1 else 0) := by
  unfold used
  rw [List.take_add_one, h, List.filter_append, List.length_append]
  cases he : u.s == (i : Int) <;> simp [he]

/-- what Put leaves: the row's new value written, two cells of a block of the call's own -/
theorem rput_post {B bm o k5 c5 : Nat} {w wr W5 : World} {v a b : Value} {n : Int} {all : List HV} {x : HV} {ob : Obj} (h : RefAt B w bm o v n all) (hb : Below w.heap.size w wr)
    (own5 : W5.ownsRow B 82 4 (.slice (some ⟨k5, 0, none⟩) (all.length + 1) c5) (all.length + 1) (hvs all ++ [.int .i64 x.s, .int .i64 x.g, .string x.x, .bool x.gone]))
    (grow5 : (wr.drew.alloc ob).grownBy W5 v.ownBlock) (at5 : v.ownBlock = some k5 ∨ k5 = wr.heap.size + 1) (hlt : w.heap.size < wr.heap.size) :
    RTurn bm o v.ownBlock w (((W5.setCell ⟨bm, o + 1, none⟩ (.slice (some ⟨k5, 0, none⟩) (all.length + 1) c5)).setCell ⟨w.heap.size, 0, none⟩ a).setCell ⟨w.heap.size, 1, none⟩ b) ∧
    RefAt B (((W5.setCell ⟨bm, o + 1, none⟩ (.slice (some ⟨k5, 0, none⟩) (all.length + 1) c5)).setCell ⟨w.heap.size, 0, none⟩ a).setCell ⟨w.heap.size, 1, none⟩ b) bm o (.slice (some ⟨k5, 0, none⟩) (all.length + 1) c5) n (all ++ [x]) := by
  have hlm := h.lm
  have hone := h.one
  have hlow := h.low
  have hsz5 : wr.heap.size + 1 ≤ W5.heap.size := by have := grow5.size; simpa using this
  have hk5 : k5 ≠ bm ∧ k5 ≠ w.heap.size := by
    rcases at5 with e | e
    · have := h.row.lt k5 e
      omega
    · omega
  have hbd : Below wr.heap.size wr (wr.drew.alloc ob) := ((Below.refl wr.heap.size wr).drew).alloc (Nat.le_refl _) ob
  have hblk : ∀ k, k < w.heap.size → some k ≠ v.ownBlock → W5.heap[k]? = w.heap[k]? := fun k hk hne => by
    rw [grow5.block k (by simp; omega) hne, hbd.block k (by omega), hb.block k hk]
  have hcell : ∀ j, W5.cell? ⟨bm, j, none⟩ = w.cell? ⟨bm, j, none⟩ := fun j => World.cell?_of_block (hblk bm hlm hone)
  have hfro : ∀ j, W5.frozen? ⟨bm, j, none⟩ = w.frozen? ⟨bm, j, none⟩ := fun j => World.frozen?_of_block (hblk bm hlm hone)
  have hne : w.heap.size ≠ bm := by omega
  have ho : ∀ (u : World) (i j : Nat) (z : Value), (u.setCell ⟨w.heap.size, i, none⟩ z).cell? ⟨bm, j, none⟩ = u.cell? ⟨bm, j, none⟩ := fun u i j z => World.cell?_setCell_other _ _ _ _ (fun e => hne (by injection e))
  have hext : w.heap.size ≤ W5.heap.size := by omega
  constructor
  · refine ⟨?_, ?_, ?_, by simp; omega, fun k hk h1 h2 => ?_, fun j hj => ?_, fun j => ?_⟩
    · show W5.os = w.os
      rw [grow5.os, ← hb.os]; rfl
    · show W5.tape = w.tape
      rw [grow5.tape, ← hb.tape]; rfl
    · show W5.output = w.output
      rw [grow5.output, ← hb.output]; rfl
    · rw [Below.heap_setCell _ ⟨w.heap.size, 1, none⟩ _ k (by show k ≠ w.heap.size; omega), Below.heap_setCell _ ⟨w.heap.size, 0, none⟩ _ k (by show k ≠ w.heap.size; omega), Below.heap_setCell _ ⟨bm, o + 1, none⟩ _ k h1]
      exact hblk k hk h2
    · rw [ho, ho, World.cell?_setCell_other _ _ _ _ (fun e => hj (by injection e with _ e _; exact e.symm)), hcell]
    · rw [World.frozen?_setCell, World.frozen?_setCell, World.frozen?_setCell, hfro]
  · refine ⟨?_, ?_, ?_, ?_, hlow.1, by simp; omega⟩
    · rw [ho, ho, World.cell?_setCell_other _ _ _ _ (fun e => by injection e with _ e _; omega), hcell]; exact h.c0
    · rw [ho, ho]
      exact World.cell?_setCell_same' _ _ _ (by rw [hcell, h.c1]; rfl)
    · rw [World.frozen?_setCell, World.frozen?_setCell, World.frozen?_setCell, hfro]; exact h.f1
    · have hk : ∀ (u : World) (q : Nat) (i : Nat) (z : Value), q ≠ k5 → u.ownsRow B 82 4 (.slice (some ⟨k5, 0, none⟩) (all.length + 1) c5) (all.length + 1) (hvs all ++ [.int .i64 x.s, .int .i64 x.g, .string x.x, .bool x.gone]) →
          (u.setCell ⟨q, i, none⟩ z).ownsRow B 82 4 (.slice (some ⟨k5, 0, none⟩) (all.length + 1) c5) (all.length + 1) (hvs all ++ [.int .i64 x.s, .int .i64 x.g, .string x.x, .bool x.gone]) :=
        fun u q i z hq hu => ownsRow_setCell_other hu (by show some k5 ≠ some q; intro e; injection e with e; exact hq e.symm) z
      rw [List.length_append, List.length_singleton, hvs_app]
      exact hk _ _ _ _ (fun e => hk5.2 e.symm) (hk _ _ _ _ (fun e => hk5.2 e.symm) (hk _ _ _ _ (fun e => hk5.1 e.symm) own5))

section
variable (B bm o : Nat) (v : Value) (n : Int) (all : List HV) (x : ByteArray) (w : World) (h : RefAt B w bm o v n all)
include h
set_option maxHeartbeats 8000000 in
theorem rput_full (S : Nat) (hS : n = S) (hn : S ≤ 4096) (KJ : ∀ j : Nat, j < S → ∃ r : Nat, ∀ w, RefAt B w bm o v n all → Calls Try.prog 47 #[.pointer (some ⟨bm, o, none⟩), .int .i64 (j : Int)] w (Gives (.int .i64 r) w)) :
    Calls Try.prog 29 #[.pointer (some ⟨bm, o, none⟩), .string x] w (Gives (.tuple #[.agg #[.int .i64 0, .int .i64 0], .int .i64 132]) w) := by
  subst hS
  have HK := Lib.hid KJ
  have HH := Lib.hid h
  have c0 := h.c0
  have lm := h.lm
  clear KJ h
  go_enter Try.func29, Try.ntmps29
  go_wp2_with fail
  go_loopw [6] (fun v wr => ∃ j : Nat, j ≤ S ∧ v = .int .i64 j ∧ Below w.heap.size w wr ∧ wr.cell? ⟨w.heap.size, 0, none⟩ = some (.int .i64 0) ∧ wr.cell? ⟨w.heap.size, 1, none⟩ = some (.int .i64 0) ∧ wr.frozen? ⟨w.heap.size, 0, none⟩ = false ∧ wr.frozen? ⟨w.heap.size, 1, none⟩ = false) (fun v _ => S - (intOf v).toNat)
  case atStart => exact ⟨0, Nat.zero_le _, rfl, (Below.refl _ w).alloc (Nat.le_refl _) _, by simp [go_sem], by simp [go_sem], by simp [go_sem], by simp [go_sem]⟩
  case round =>
    obtain ⟨j, hj, rfl, hb, o0, o1, of0, of1⟩ := hrel
    have cc := (hb.cell (p := ⟨bm, o, none⟩) lm).trans c0
    by_cases hlt : j < S
    · obtain ⟨r, hr⟩ := HK.out j hlt
      have t1 : decide ((j : Int) < (S : Int)) = true := decide_eq_true (by omega)
      have ob : w.heap.size < wr.heap.size := World.block_lt_of_cell? wr _ o0
      go_wp2_with fail
      refine (hr _ (HH.out.below hb)).mono ?_
      rintro e W ⟨rfl, z, rfl⟩
      have o0' := (z.h.cell (p := ⟨w.heap.size, 0, none⟩) ob).trans o0
      have o1' := (z.h.cell (p := ⟨w.heap.size, 1, none⟩) ob).trans o1
      have of0' := (z.h.frozen (p := ⟨w.heap.size, 0, none⟩) ob).trans of0
      have of1' := (z.h.frozen (p := ⟨w.heap.size, 1, none⟩) ob).trans of1
      have hb' := hb.trans (z.h.mono hb.size)
      go_wp2_with fail
      go_roundw
      case rel => exact ⟨j + 1, by omega, by go_num, hb', o0', o1', of0', of1'⟩
      case measure => simp [intOf]; omega
    · obtain rfl : j = S := by omega
      have t1 : decide ((j : Int) < (j : Int)) = false := decide_eq_false (by omega)
      go_wp2
      refine bodyPost_ret (v := .tuple #[.agg #[.int .i64 0, .int .i64 0], .int .i64 132]) (by simp [results, Try.results29, go_sem, o0, o1]) rfl (gives_of_eq rfl ?_)
      exact (hb.setCell (p := ⟨w.heap.size, 0, none⟩) (Nat.le_refl _) _).setCell (p := ⟨w.heap.size, 1, none⟩) (Nat.le_refl _) _

set_option maxRecDepth 50000 in
set_option maxHeartbeats 16000000 in
theorem rput_room (i S : Nat) (hS : n = S) (hn : S ≤ 4096) (hi : i < S) (hm : all.length ≤ 1048576)
    (KJ : ∀ j : Nat, j < i → ∃ r : Nat, ∀ w, RefAt B w bm o v n all → Calls Try.prog 47 #[.pointer (some ⟨bm, o, none⟩), .int .i64 (j : Int)] w (Gives (.int .i64 r) w))
    (KI : ∀ w, RefAt B w bm o v n all → Calls Try.prog 47 #[.pointer (some ⟨bm, o, none⟩), .int .i64 (i : Int)] w (Gives (.int .i64 (-1)) w)) :
    Calls Try.prog 29 #[.pointer (some ⟨bm, o, none⟩), .string x] w fun r w' => r = .returned (.tuple #[.agg #[.int .i64 (i : Int), .int .i64 (1 + used i all)], .int .i64 0]) ∧ RTurn bm o v.ownBlock w w' ∧
      ∃ v', RefAt B w' bm o v' n (all ++ [⟨i, 1 + used i all, x, false⟩]) ∧ (v'.ownBlock = v.ownBlock ∨ ∃ k, v'.ownBlock = some k ∧ w.heap.size ≤ k) := by
  subst hS
  obtain ⟨A, c, rfl, hA⟩ := h.len
  have HK := Lib.hid KJ
  have HI := Lib.hid KI
  have HH := Lib.hid h
  have c0 := h.c0
  have c1 := h.c1
  have lm := h.lm
  clear KJ KI h
  go_enter Try.func29, Try.ntmps29
  go_wp2_with fail
  go_loopw [6] (fun v wr => ∃ j : Nat, j ≤ i ∧ v = .int .i64 j ∧ Below w.heap.size w wr ∧ wr.cell? ⟨w.heap.size, 0, none⟩ = some (.int .i64 0) ∧ wr.cell? ⟨w.heap.size, 1, none⟩ = some (.int .i64 0) ∧ wr.frozen? ⟨w.heap.size, 0, none⟩ = false ∧ wr.frozen? ⟨w.heap.size, 1, none⟩ = false) (fun v _ => S - (intOf v).toNat)
  case atStart => exact ⟨0, Nat.zero_le _, rfl, (Below.refl _ w).alloc (Nat.le_refl _) _, by simp [go_sem], by simp [go_sem], by simp [go_sem], by simp [go_sem]⟩
  case round =>
    obtain ⟨wo, rfl⟩ : ∃ wo : World, wo = wr := ⟨_, rfl⟩
    obtain ⟨j, hj, rfl, hb, o0, o1, of0, of1⟩ := hrel
    have cc := (hb.cell (p := ⟨bm, o, none⟩) lm).trans c0
    have ob : w.heap.size < wo.heap.size := World.block_lt_of_cell? wo _ o0
    have t1 : decide ((j : Int) < (S : Int)) = true := decide_eq_true (by omega)
    by_cases hlt : j < i
    · obtain ⟨r, hr⟩ := HK.out j hlt
      go_wp2_with fail
      refine (hr _ (HH.out.below hb)).mono ?_
      rintro e W ⟨rfl, z, rfl⟩
      have o0' := (z.h.cell (p := ⟨w.heap.size, 0, none⟩) ob).trans o0
      have o1' := (z.h.cell (p := ⟨w.heap.size, 1, none⟩) ob).trans o1
      have of0' := (z.h.frozen (p := ⟨w.heap.size, 0, none⟩) ob).trans of0
      have of1' := (z.h.frozen (p := ⟨w.heap.size, 1, none⟩) ob).trans of1
      have hb' := hb.trans (z.h.mono hb.size)
      go_wp2_with fail
      go_roundw
      case rel => exact ⟨j + 1, by omega, by go_num, hb', o0', o1', of0', of1'⟩
      case measure => simp [intOf]; omega
    · obtain rfl : j = i := by omega
      go_wp2_with fail
      refine (HI.out _ (HH.out.below hb)).mono ?_
      rintro e W ⟨rfl, z, rfl⟩
      have p0 := (z.h.cell (p := ⟨w.heap.size, 0, none⟩) ob).trans o0
      have p1 := (z.h.cell (p := ⟨w.heap.size, 1, none⟩) ob).trans o1
      have pf0 := (z.h.frozen (p := ⟨w.heap.size, 0, none⟩) ob).trans of0
      have pf1 := (z.h.frozen (p := ⟨w.heap.size, 1, none⟩) ob).trans of1
      have hbz := hb.trans (z.h.mono hb.size)
      have ob2 : w.heap.size < z.i.heap.size := World.block_lt_of_cell? z.i _ p0
      generalize z.i = W1 at *
      clear z o0 o1 of0 of1 cc hb ob wo
      have cc := (hbz.cell (p := ⟨bm, o, none⟩) lm).trans c0
      have cc1 := (hbz.cell (p := ⟨bm, o + 1, none⟩) lm).trans c1
      have hnS : ((j : Int) == (S : Int)) = false := by simp only [beq_eq_false_iff_ne]; omega
      have hb2 : Below w.heap.size w (W1.alloc (.cells #[.int .i64 (j : Int), .int .i64 1] 32)) := hbz.alloc hbz.size _
      have s0 : (W1.alloc (.cells #[.int .i64 (j : Int), .int .i64 1] 32)).cell? ⟨w.heap.size, 0, none⟩ = some (.int .i64 0) := by rw [World.cell?_alloc_lt _ _ _ ob2]; exact p0
      have s1 : (W1.alloc (.cells #[.int .i64 (j : Int), .int .i64 1] 32)).cell? ⟨w.heap.size, 1, none⟩ = some (.int .i64 0) := by rw [World.cell?_alloc_lt _ _ _ ob2]; exact p1
      have s2 : (W1.alloc (.cells #[.int .i64 (j : Int), .int .i64 1] 32)).frozen? ⟨w.heap.size, 0, none⟩ = false := by rw [((Below.refl W1.heap.size W1).alloc (Nat.le_refl _) _).frozen (p := ⟨w.heap.size, 0, none⟩) ob2]; exact pf0
      have s3 : (W1.alloc (.cells #[.int .i64 (j : Int), .int .i64 1] 32)).frozen? ⟨w.heap.size, 1, none⟩ = false := by rw [((Below.refl W1.heap.size W1).alloc (Nat.le_refl _) _).frozen (p := ⟨w.heap.size, 1, none⟩) ob2]; exact pf1
      have q0 : (W1.alloc (.cells #[.int .i64 (j : Int), .int .i64 1] 32)).cell? ⟨W1.heap.size, 0, none⟩ = some (.int .i64 (j : Int)) := by simp [go_sem]
      have q1 : (W1.alloc (.cells #[.int .i64 (j : Int), .int .i64 1] 32)).cell? ⟨W1.heap.size, 1, none⟩ = some (.int .i64 1) := by simp [go_sem]
      have q2 : (W1.alloc (.cells #[.int .i64 (j : Int), .int .i64 1] 32)).frozen? ⟨W1.heap.size, 1, none⟩ = false := by simp [go_sem]
      go_wp2_with fail
      generalize W1.alloc (.cells #[.int .i64 (j : Int), .int .i64 1] 32) = W2 at *
      generalize W1.heap.size = b7 at *
      clear p0 p1 pf0 pf1 hbz cc cc1 W1
      have hne7 : w.heap.size ≠ b7 := Nat.ne_of_lt ob2
      have hne7' : b7 ≠ w.heap.size := fun e => hne7 e.symm
      have hAA := Lib.hid hA
      clear hA
      have hlen : all.length = all.length := rfl
      go_loopw [8] (fun v wr => ∃ k : Nat, k ≤ all.length ∧ v = .int .i64 k ∧ Below w.heap.size w wr ∧ wr.cell? ⟨w.heap.size, 0, none⟩ = some (.int .i64 0) ∧ wr.cell? ⟨w.heap.size, 1, none⟩ = some (.int .i64 0) ∧ wr.frozen? ⟨w.heap.size, 0, none⟩ = false ∧ wr.frozen? ⟨w.heap.size, 1, none⟩ = false ∧
        wr.cell? ⟨b7, 0, none⟩ = some (.int .i64 (j : Int)) ∧ wr.cell? ⟨b7, 1, none⟩ = some (.int .i64 (1 + (used j (all.take k) : Nat))) ∧ wr.frozen? ⟨b7, 1, none⟩ = false) (fun v _ => all.length - (intOf v).toNat)
      case atStart => exact ⟨0, Nat.zero_le _, rfl, hb2, s0, s1, s2, s3, q0, q1, q2⟩
      case round =>
        clear s0 s1 s2 s3 q0 q1 q2 hb2
        obtain ⟨k, hk, rfl, hb2, s0, s1, s2, s3, q0, q1, q2⟩ := hrel
        have cc1 := (hb2.cell (p := ⟨bm, o + 1, none⟩) lm).trans c1
        clear c1 c0 hlen
        by_cases hkl : k < all.length
        · obtain ⟨u, hu⟩ : ∃ u, all[k]? = some u := ⟨_, List.getElem?_eq_getElem hkl⟩
          obtain ⟨kb, rfl, hk1, hk2⟩ := hAA.out (by omega)
          obtain ⟨a0, a1, a2, a3⟩ := (HH.out.below hb2).at rfl hu
          have hun := used_next j all k u hu
          have hub : used j (all.take k) ≤ k := by
            unfold used
            have h1 := List.length_filter_le (fun e : HV => e.s == (j : Int)) (all.take k)
            have h2 := List.length_take_le k all
            omega
          generalize used j (all.take k) = ct at *
          by_cases hus : u.s = (j : Int)
          · have t : (u.s == (j : Int)) = true := by simpa using hus
            rw [t, if_pos rfl] at hun
            go_wp2
            go_roundw
            case rel => exact ⟨k + 1, by omega, by go_num, hb2.setCell (p := ⟨b7, 1, none⟩) (Nat.le_of_lt ob2) _, by simp [go_sem, hne7, hne7', s0], by simp [go_sem, hne7, hne7', s1], by simp [go_sem, s2], by simp [go_sem, s3], by simp [go_sem, q0], by rw [hun]; simp [go_sem, q1]; omega, by simp [go_sem, q2]⟩
            case measure => simp [intOf]; omega
          · have t : (u.s == (j : Int)) = false := by simpa using hus
            rw [t, if_neg (by decide), Nat.add_zero] at hun
            go_wp2
            go_roundw
            case rel => exact ⟨k + 1, by omega, by go_num, hb2, s0, s1, s2, s3, q0, by rw [hun]; exact q1, q2⟩
            case measure => simp [intOf]; omega
        · obtain rfl : k = all.length := by omega
          rw [List.take_of_length_le (Nat.le_refl _)] at q1
          have hr := HH.out.below hb2
          have fm := hr.f1
          obtain ⟨i0, hi0, hz0, hz1, hz2⟩ := info_parts Try.info82
          have HR := Lib.hid hr
          have hone := hr.one
          have lw : bm < wr.heap.size := hr.lm
          have hlow := hr.low.2
          have hus : used j all ≤ all.length := List.length_filter_le _ _
          have hlitN : ∀ u : World, (u.alloc (.cells #[.int .i64 (j : Int), .int .i64 (1 + (used j all : Nat)), .string x, .bool false] 82)).heap[u.heap.size]? = some (.cells #[.int .i64 (j : Int), .int .i64 (1 + (used j all : Nat)), .string x, .bool false] 82 (0, 0)) := fun u => heap_alloc_new u _
          have HL := Lib.hid hlitN
          have HO := Lib.hid hone
          clear hlitN hr hone
          go_wp2_with fail
          go_region_law (refine step_append_lies _ rfl _ _ 56 (by rfl) B 82 i0 (.agg #[.int .i64 0, .int .i64 0, .string .empty, .bool false]) 4 40 Try.underlying56 hi0 hz0 hz1 hz2 rfl (by decide) (.slice A all.length c) all.length (hvs all) (by simp [Act.eval, Act.put]) ((HR.out.row.drew).alloc _) ⟨wr.heap.size, 0, none⟩ 1 1 [.int .i64 (j : Int), .int .i64 (1 + (used j all : Nat)), .string x, .bool false] (by simp [Act.eval, Act.put]) rfl (World.news_of_block (HL.out wr.drew)) (by intro u hu; simp at hu; rcases hu with rfl | rfl | rfl | rfl <;> rfl) (by decide) (by unfold maxLen; omega) (by omega) (by simp; omega) (wr.heap.size + 1) (by simp) ?_; intro k5 c5 W5 own5 grow5 at5 lt5; have cc5 := (grow5.cell_far ⟨bm, o + 1, none⟩ (by simp; omega) HO.out).trans (((Below.refl wr.heap.size wr.drew).alloc (Nat.le_refl _) (.cells #[.int .i64 (j : Int), .int .i64 (1 + (used j all : Nat)), .string x, .bool false] 82)).cell (p := ⟨bm, o + 1, none⟩) lw); have ff5 := (grow5.frozen_far ⟨bm, o + 1, none⟩ (by simp; omega) HO.out).trans (((Below.refl wr.heap.size wr.drew).alloc (Nat.le_refl _) (.cells #[.int .i64 (j : Int), .int .i64 (1 + (used j all : Nat)), .string x, .bool false] 82)).frozen (p := ⟨bm, o + 1, none⟩) lw))
          all_goals (have hc5 : ∀ p : Addr, p.block < wr.heap.size → some p.block ≠ (Value.slice A all.length c).ownBlock → W5.cell? p = wr.cell? p := fun p h1 h2 => (grow5.cell_far p (by simp; omega) h2).trans (((Below.refl wr.heap.size wr.drew).alloc (Nat.le_refl _) (.cells #[.int .i64 (j : Int), .int .i64 (1 + (used j all : Nat)), .string x, .bool false] 82)).cell h1))
          all_goals (have hf5 : ∀ p : Addr, p.block < wr.heap.size → some p.block ≠ (Value.slice A all.length c).ownBlock → W5.frozen? p = wr.frozen? p := fun p h1 h2 => (grow5.frozen_far p (by simp; omega) h2).trans (((Below.refl wr.heap.size wr.drew).alloc (Nat.le_refl _) (.cells #[.int .i64 (j : Int), .int .i64 (1 + (used j all : Nat)), .string x, .bool false] 82)).frozen h1))
          all_goals (have hn1 : some w.heap.size ≠ (Value.slice A all.length c).ownBlock := fun e => by have := (HH.out.row.lt _ e.symm).2; omega)
          all_goals (have hn2 : some b7 ≠ (Value.slice A all.length c).ownBlock := fun e => by have := (HH.out.row.lt _ e.symm).2; omega)
          all_goals (have lb7 : b7 < wr.heap.size := World.block_lt_of_cell? wr _ q0)
          all_goals (have lw0 : w.heap.size < wr.heap.size := World.block_lt_of_cell? wr _ s0)
          all_goals (have e0 := (hc5 ⟨w.heap.size, 0, none⟩ lw0 hn1).trans s0; have e1 := (hc5 ⟨w.heap.size, 1, none⟩ lw0 hn1).trans s1; have e2 := (hf5 ⟨w.heap.size, 0, none⟩ lw0 hn1).trans s2; have e3 := (hf5 ⟨w.heap.size, 1, none⟩ lw0 hn1).trans s3; have e4 := (hc5 ⟨b7, 0, none⟩ lb7 hn2).trans q0; have e5 := (hc5 ⟨b7, 1, none⟩ lb7 hn2).trans q1)
          all_goals (have n1 : bm ≠ b7 := by omega)
          all_goals (have n2 : bm ≠ w.heap.size := by omega)
          all_goals (have HP := rput_post (a := .int .i64 (j : Int)) (b := .int .i64 (1 + (used j all : Nat))) (x := ⟨j, 1 + (used j all : Nat), x, false⟩) HH.out hb2 own5 grow5 at5 lw0)
          all_goals (have hown : (Value.slice A all.length c).ownBlock = some k5 ∨ w.heap.size ≤ k5 := at5.imp id (fun e => by omega))
          all_goals clear hc5 hf5 s0 s1 s2 s3 q0 q1 q2 own5 grow5 at5
          all_goals go_wp2_with fail
          all_goals refine bodyPost_ret (v := .tuple #[.agg #[.int .i64 (j : Int), .int .i64 (1 + (used j all : Nat))], .int .i64 0]) (by simp [results, Try.results29, go_sem, e0, e1, n2]) rfl ⟨rfl, HP.1, _, HP.2, ?_⟩
          all_goals exact hown.imp (fun e => e.symm) (fun h => ⟨k5, rfl, h⟩)
end
end Go.Proofs.Ytpnegofmebfcgaa

/- The reference's New and List. -/
namespace Go.Proofs.Ytpnegofmebfcgaa
open Go.RowKit
attribute [local go_sem] BW.cell BW.frozen
set_option linter.unusedVariables false
set_option linter.unusedSimpArgs false

theorem grown_belowH {w w' : World} {B : Nat} {row : Option Nat} (h : w.grownBy w' row) (hr : ∀ g, row = some g → B ≤ g) (hB : B ≤ w.heap.size) : Below B w w' :=
  ⟨h.os, h.tape, h.output, h.size, fun k hk => h.block k (by omega) (fun e => by have := hr k e.symm; omega)⟩
set_option maxHeartbeats 2000000 in
theorem rnew_bad (n : Int) (w : World) (hn : n < 1 ∨ 4096 < n) : Calls Try.prog 21 #[.int .i64 n] w (Gives (.tuple #[.agg #[.int .i64 0, .slice none 0 0], .int .i64 1]) w) := by
  rcases hn with h1 | h1
  · go_enter Try.func21, Try.ntmps21
    go_wp2
    refine bodyPost_ret (v := .tuple #[.agg #[.int .i64 0, .slice none 0 0], .int .i64 1]) (by simp [results, Try.results21, go_sem]) rfl (gives_of_eq rfl ?_)
    first | exact ((Below.refl _ w).alloc (Nat.le_refl _) _) | exact (((Below.refl _ w).alloc (Nat.le_refl _) _).setCell (p := ⟨w.heap.size, 0, none⟩) (Nat.le_refl _) _).setCell (p := ⟨w.heap.size, 1, none⟩) (Nat.le_refl _) _
  · have h2 : ¬ n < 1 := by omega
    go_enter Try.func21, Try.ntmps21
    go_wp2
    refine bodyPost_ret (v := .tuple #[.agg #[.int .i64 0, .slice none 0 0], .int .i64 1]) (by simp [results, Try.results21, go_sem]) rfl (gives_of_eq rfl ?_)
    first | exact ((Below.refl _ w).alloc (Nat.le_refl _) _) | exact (((Below.refl _ w).alloc (Nat.le_refl _) _).setCell (p := ⟨w.heap.size, 0, none⟩) (Nat.le_refl _) _).setCell (p := ⟨w.heap.size, 1, none⟩) (Nat.le_refl _) _
set_option maxHeartbeats 2000000 in
theorem rnew_ok (n : Int) (w : World) (h1 : 1 ≤ n) (h2 : n ≤ 4096) : Calls Try.prog 21 #[.int .i64 n] w (Gives (.tuple #[.agg #[.int .i64 n, .slice none 0 0], .int .i64 0]) w) := by
  have h3 : ¬ n < 1 := by omega
  have h4 : ¬ 4096 < n := by omega
  go_enter Try.func21, Try.ntmps21
  go_wp2
  refine bodyPost_ret (v := .tuple #[.agg #[.int .i64 n, .slice none 0 0], .int .i64 0]) (by simp [results, Try.results21, go_sem]) rfl (gives_of_eq rfl ?_)
  first | exact ((Below.refl _ w).alloc (Nat.le_refl _) _) | exact (((Below.refl _ w).alloc (Nat.le_refl _) _).setCell (p := ⟨w.heap.size, 0, none⟩) (Nat.le_refl _) _).setCell (p := ⟨w.heap.size, 1, none⟩) (Nat.le_refl _) _

set_option maxRecDepth 50000 in
set_option maxHeartbeats 16000000 in
theorem rlist_ok (B bm o : Nat) (v : Value) (n : Int) (all : List HV) (w : World) (h : RefAt B w bm o v n all) (S : Nat) (hS : n = S) (hn : S ≤ 4096) (pick : Nat → Option HV)
    (KJ : ∀ j : Nat, j < S → (∃ (r : Nat) (e : HV), all[r]? = some e ∧ pick j = some e ∧ ∀ w, RefAt B w bm o v n all → Calls Try.prog 47 #[.pointer (some ⟨bm, o, none⟩), .int .i64 (j : Int)] w (Gives (.int .i64 r) w)) ∨
      (pick j = none ∧ ∀ w, RefAt B w bm o v n all → Calls Try.prog 47 #[.pointer (some ⟨bm, o, none⟩), .int .i64 (j : Int)] w (Gives (.int .i64 (-1)) w))) :
    Calls Try.prog 23 #[.pointer (some ⟨bm, o, none⟩)] w fun r w' => ∃ v', r = .returned v' ∧ Below w.heap.size w w' ∧ w'.ownsRow w.heap.size 82 4 v' ((List.range S).filterMap pick).length (hvs ((List.range S).filterMap pick)) := by
  subst hS
  obtain ⟨A, c, rfl, hA⟩ := h.len
  have HK := Lib.hid KJ
  have HH := Lib.hid h
  have HA := Lib.hid hA
  have c0 := h.c0
  have c1 := h.c1
  have lm := h.lm
  obtain ⟨i0, hi0, hz0, hz1, hz2⟩ := info_parts Try.info82
  clear KJ h hA
  go_enter Try.func23, Try.ntmps23
  go_wp2_with fail
  go_loopw [3, 4] (fun v3 v wr => ∃ j : Nat, j ≤ S ∧ v = .int .i64 j ∧ Below w.heap.size w wr ∧ wr.ownsRow w.heap.size 82 4 v3 ((List.range j).filterMap pick).length (hvs ((List.range j).filterMap pick))) (fun _ v _ => S - (intOf v).toNat)
  case atStart => exact ⟨0, Nat.zero_le _, rfl, Below.refl _ _, World.ownsRow_nil _ _ _ _⟩
  case round =>
    obtain ⟨wo, rfl⟩ : ∃ wo : World, wo = wr := ⟨_, rfl⟩
    obtain ⟨j, hj, rfl, hb, hown⟩ := hrel
    have cc := (hb.cell (p := ⟨bm, o, none⟩) lm).trans c0
    have cc1 := (hb.cell (p := ⟨bm, o + 1, none⟩) lm).trans c1
    have hll : ((List.range j).filterMap pick).length ≤ j := by
      have := List.length_filterMap_le pick (List.range j)
      rwa [List.length_range] at this
    have HW := Lib.hid hown
    clear hown
    by_cases hlt : j < S
    · rcases HK.out j hlt with ⟨r, e, he, hp, hC⟩ | ⟨hp, hC⟩
      · have hnx : (List.range (j + 1)).filterMap pick = (List.range j).filterMap pick ++ [e] := by
          rw [List.range_succ, List.filterMap_append]; simp [hp]
        have hrl : r < all.length := (List.getElem?_eq_some_iff.1 he).1
        go_wp2_with fail
        refine (hC _ (HH.out.below hb)).mono ?_
        rintro e' W ⟨rfl, z, rfl⟩
        have hb' := hb.trans (z.h.mono hb.size)
        have HZ := HH.out.below hb'
        obtain ⟨kb, rfl, hk1, hk2⟩ := HA.out (by omega)
        obtain ⟨a0, a1, a2, a3⟩ := HZ.at rfl he
        have m1 := HZ.c1
        have hown2 := HW.out.kept (below_grown (row := none) z.h) (by cases u3.ownBlock <;> simp)
        clear cc cc1 HZ
        generalize (List.range j).filterMap pick = L at *
        generalize z.i = W1 at *
        clear z hb HW wo
        have HO := Lib.hid hown2
        clear hown2
        go_wp2_with (at_builtin; refine wpList_append_lies _ rfl _ _ 56 (by rfl) w.heap.size 82 i0 (.agg #[.int .i64 0, .int .i64 0, .string .empty, .bool false]) 4 40 Try.underlying56 hi0 hz0 hz1 hz2 rfl (by decide) _ L.length (hvs L) (by rfl) (HO.out.alloc _) ⟨W1.heap.size, 0, none⟩ 1 1 [.int .i64 e.s, .int .i64 e.g, .string e.x, .bool e.gone] (by rfl) rfl (World.news_of_block (heap_alloc_new W1 _)) (by intro u hu; simp at hu; rcases hu with rfl | rfl | rfl | rfl <;> rfl) (by decide) (by unfold maxLen; omega) (by omega) (Nat.le_trans hb'.size (by simp)) (W1.heap.size + 1) (by simp) ?_; intro k5 c5 W5 own5 grow5 at5 lt5)
        go_roundw
        case rel => exact ⟨j + 1, by omega, by go_num, (hb'.alloc hb'.size _).trans (grown_belowH grow5 (fun g hg => (HO.out.lt g hg).1) (Nat.le_trans hb'.size (by simp))), by rw [hnx, List.length_append, List.length_singleton, hvs_app]; exact own5⟩
        case measure => simp [intOf]; omega
      · have hnx : (List.range (j + 1)).filterMap pick = (List.range j).filterMap pick := by
          rw [List.range_succ, List.filterMap_append]; simp [hp]
        go_wp2_with fail
        refine (hC _ (HH.out.below hb)).mono ?_
        rintro e' W ⟨rfl, z, rfl⟩
        have hb' := hb.trans (z.h.mono hb.size)
        have hown2 := HW.out.kept (below_grown (row := none) z.h) (by cases u3.ownBlock <;> simp)
        rw [← hnx] at hown2
        have HO := Lib.hid hown2
        clear hown2
        go_wp2_with fail
        go_roundw
        case rel => exact ⟨j + 1, by omega, by go_num, hb', HO.out⟩
        case measure => simp [intOf]; omega
    · obtain rfl : j = S := by omega
      go_wp2
      go_ret
      exact ⟨_, rfl, hb, HW.out⟩
end Go.Proofs.Ytpnegofmebfcgaa

