/- Opening a slice of points; what the bound of the second form gives. -/
import Derived.Test.YtilimgjmiijkiaaL
import Derived.Test.YtilimgjmiijkiaaA13
import Derived.Test.YtilimgjmiijkiaaRows
import Derived.Deep.Slices
import Derived.JoinedCond
namespace Go.Proofs.Ytilimgjmiijkiaa
open Go.ChangeShapes Go.WideShapes Go.ChangeAt Go.RowKit

theorem bulk_one {H : Type} (d : DataW H) : 1 ≤ Rows.uptoBulk d := by
  cases d with
  | lit l => cases l <;> simp [Rows.uptoBulk]
  | nil => simp [Rows.uptoBulk]
  | ptr d => simp [Rows.uptoBulk]
  | slice elems spare => simp [Rows.uptoBulk]
  | agg parts => simp [Rows.uptoBulk]
  | iface t d => simp [Rows.uptoBulk]
  | map entries => simp [Rows.uptoBulk]
  | held h => simp [Rows.uptoBulk]

theorem bulk_length {H : Type} (l : List (DataW H)) : l.length ≤ Rows.uptoBulkAll l := by
  induction l with
  | nil => simp [Rows.uptoBulkAll]
  | cons x r ih => have := bulk_one x; simp only [Rows.uptoBulkAll, List.length_cons]; omega

theorem bulk_slice {H : Type} (elems spare : List (DataW H)) (hk : Rows.uptoSmall H [.slice elems spare] = true) : elems.length ≤ 1048576 := by
  have h : Rows.uptoBulkAll [DataW.slice elems spare] ≤ 1048576 := of_decide_eq_true hk
  simp only [Rows.uptoBulkAll, Rows.uptoBulk] at h
  have h1 := bulk_length elems
  omega

theorem cell_lt {w : World} {b off : Nat} {v : Value} (h : w.cell? ⟨b, off, none⟩ = some v) : b < w.heap.size := by
  rcases Nat.lt_or_ge b w.heap.size with hlt | hge
  · exact hlt
  · simp [World.cell?, Array.getElem?_eq_none hge] at h

section
variable {H : Type} {enc : TypeId × Value → H} {W : World} {base : Nat} {v : Value} {d : DataW H} {ps : List MemPlace} {r : Reach} {b0 : Nat}

theorem open_pts {held : Bool} {sp : Nat → Bool} (hval : Value.okWide Try.prog W r b0 30 v) (hd : DataW.Trod enc Try.prog W base sp held 30 v d ps) :
    ∃ A n c xs, v = .slice A n c ∧ n ≤ c ∧ PRd W W.heap.size A n xs ∧ (n = 0 ∨ ∃ elems spare, d = .slice elems spare ∧ elems.length = n) := by
  obtain ⟨A, n, c, rfl⟩ := okWide_slice Try.underlying30 hval
  obtain ⟨fuel, hf⟩ := hd
  have hC : Try.prog.cellsOf 24 = 2 := by kernel_rfl
  rcases Go.Deep.open_slice Try.underlying30 hf with ⟨h0, _⟩ | ⟨a, len, cap, m, k, D, Pl, hcs, hb, hl, hm, hmm, hx, hi⟩
  · simp only [Value.cells] at h0
    injection h0 with h0
    injection h0 with e1 e2 e3
    subst e1 e2 e3
    exact ⟨none, 0, 0, [], rfl, Nat.le_refl _, ⟨rfl, (by intro p hp; cases hp), fun h => absurd h (by omega)⟩, .inl rfl⟩
  · simp only [Value.cells] at hcs
    injection hcs with hcs
    injection hcs with e1 e2 e3
    subst e1 e2 e3
    have hd' : d = .slice ((List.range n).map D) ((List.range (m - n)).map fun j => D (n + j)) := by injection hx
    have hle : n ≤ m := by rw [hmm]; split <;> omega
    have key : ∀ i, i < n → ∃ p : Int × Int, (-32768 ≤ p.1 ∧ p.1 ≤ 32767 ∧ -32768 ≤ p.2 ∧ p.2 ≤ 32767) ∧ W.cell? (a.add (i * 2)) = some (.int .i16 p.1) ∧ W.cell? ((a.add (i * 2)).add 1) = some (.int .i16 p.2) := fun i hi' => by
      obtain ⟨cs', hc, ht⟩ := hi i (by omega)
      rw [hC] at hc
      obtain ⟨x, y, rfl, _, b1, b2, b3, b4⟩ := pt_cells ht
      obtain ⟨_, _, hat⟩ := World.cells?_some hc
      have h0 := hat 0 (by omega)
      have h1 := hat 1 (by omega)
      refine ⟨(x, y), ⟨b1, b2, b3, b4⟩, ?_, ?_⟩
      · simpa [Addr.add] using h0
      · simpa using h1
    obtain ⟨f, hfn⟩ : ∃ f : Nat → Int × Int, ∀ i, i < n → (-32768 ≤ (f i).1 ∧ (f i).1 ≤ 32767 ∧ -32768 ≤ (f i).2 ∧ (f i).2 ≤ 32767) ∧ W.cell? (a.add (i * 2)) = some (.int .i16 (f i).1) ∧ W.cell? ((a.add (i * 2)).add 1) = some (.int .i16 (f i).2) :=
      ⟨fun i => if h : i < n then (key i h).choose else (0, 0), fun i h => by simp only [dif_pos h]; exact (key i h).choose_spec⟩
    clear key
    refine ⟨some a, n, c, (List.range n).map f, rfl, hl, ?_, .inr ⟨_, _, hd', by simp⟩⟩
    refine ⟨by simp, ?_, fun hn => ?_⟩
    · intro p hp
      obtain ⟨i, hi1, rfl⟩ := List.mem_map.1 hp
      exact (hfn i (List.mem_range.1 hi1)).1
    · obtain ⟨b, off, spot⟩ := a
      have hspot : spot = none := by
        have := (hfn 0 hn).2.1
        simpa [Addr.add] using World.cell?_spot this
      subst hspot
      refine ⟨b, off, rfl, ?_, fun i p hp => ?_⟩
      · have := (hfn 0 hn).2.1
        rw [Go.WideShapes.add_plain] at this
        exact cell_lt this
      · have hi2 : i < n := by
          have := (List.getElem?_eq_some_iff.1 hp).1
          simpa using this
        rw [List.getElem?_map, List.getElem?_range hi2] at hp
        simp only [Option.map_some] at hp
        injection hp with hp
        subst hp
        have := (hfn i hi2).2
        rw [Go.WideShapes.add_plain, Go.WideShapes.add_plain] at this
        exact this
end
end Go.Proofs.Ytilimgjmiijkiaa
