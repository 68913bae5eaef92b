/- Slab: has, of a slab and the reference's list of it. -/
import Derived.Test.YtpnegofmebfcgaaR2
namespace Go.Proofs.Ytpnegofmebfcgaa
open Go.RowKit Go.Shelf
set_option linter.unusedVariables false

theorem take_filter (l : List SL) (k : Nat) : (l.take k).filter (·.full) = (l.filter (·.full)).take ((l.take k).filter (·.full)).length := by
  have e : l.filter (·.full) = (l.take k).filter (·.full) ++ (l.drop k).filter (·.full) := by rw [← List.filter_append, List.take_append_drop]
  rw [e, List.take_left']
  rfl
theorem own_rd {w : World} {b0 : Nat} {v : Value} {L : List HV} (h : w.ownsRow b0 82 4 v L.length (hvs L)) : ∃ A c, v = .slice A L.length c ∧ Rd HV.cells 4 w w.heap.size A L.length L := by
  rcases Nat.eq_zero_or_pos L.length with h0 | h0
  · rcases h.2 with ⟨hv, _⟩ | ⟨g, cap, cur, hv, _⟩
    · exact ⟨none, 0, by rw [hv, h0], rfl, fun h => absurd h (by omega)⟩
    · exact ⟨_, _, hv, rfl, fun h => absurd h (by omega)⟩
  · obtain ⟨k, c, rfl, h1, h2⟩ := h.form h0
    refine ⟨_, _, rfl, rfl, fun _ => ⟨k, 0, rfl, h2, fun i x hx j u hu => ?_⟩⟩
    have hi := (List.getElem?_eq_some_iff.1 hx).1
    obtain ⟨a0, a1, a2, a3⟩ := hvs_at L i x hx
    rw [Nat.zero_add]
    match j with
    | 0 => cases hu; rw [Nat.add_zero, h.cellAt _ (by omega)]; exact a0
    | 1 => cases hu; rw [h.cellAt _ (by omega)]; exact a1
    | 2 => cases hu; rw [h.cellAt _ (by omega)]; exact a2
    | 3 => cases hu; rw [h.cellAt _ (by omega)]; exact a3
    | j + 4 => simp [HV.cells] at hu

theorem has_slab {l : List SL} {ps g b0 : Nat} {w : World} {v : Value} (hx : ∀ s ∈ l, ∃ b : ByteArray, s.x = .string b) (hl : l.length ≤ 4096) (h0 : 0 < l.length) (hS : SlabAt 111 w ps g l)
    (hv : w.ownsRow b0 82 4 v (l.filterMap heldOf).length (hvs (l.filterMap heldOf))) : Calls Try.prog 26 #[.pointer (some ⟨ps, 0, none⟩), v] w (Gives (.bool true) w) := by
  obtain ⟨A, c, rfl, hrd⟩ := own_rd hv
  obtain ⟨hlk, hlen⟩ := held_likes l hx
  have hfl := List.length_filter_le (fun s : SL => s.full) l
  have hST : ∀ W W', SlabAt 111 W ps g l → Below w.heap.size W W' → SlabAt 111 W' ps g l := fun W W' h hb =>
    ⟨(hb.cell (p := ⟨ps, 0, none⟩) hS.pl).trans h.ptr, (hb.block g hS.gl).trans h.blk, h.ne⟩
  have hseq : ∀ (n : Nat) (Bs : Nat) (W : World), 1 ≤ n → SlabAt 111 W ps g l → Bs < W.heap.size → W.cell? ⟨Bs, 0, none⟩ = some (.pointer (some ⟨ps, 0, none⟩)) →
      SeqStopsK Fence.wide n Try.prog 48 #[.pointer (some ⟨Bs, 0, none⟩)] (fun x : StrSL => #[.agg #[.int .i64 x.1.slot, .int .i64 x.1.gen], x.1.x]) (KT 111 g) (fun ys => vals ys = l.filter (·.full)) (fun pre => ∃ k, vals pre = (l.filter (·.full)).take k) l.length W := by
    intro n Bs W h1 hW hB hBs lp J Jx W1 hW1 hJ hJx hY hj0
    refine (allgs_stops Fence.wide n trivial rfl h1 Bs ps g l hl h0 hx (fun s => ∃ b : ByteArray, s.x = .string b) (fun s hs _ => hx s hs) W hB hBs hW lp J Jx W1 hW1 hJ hJx hY hj0).mono ?_
    rintro e w1 ⟨hv, hr⟩
    refine ⟨hv, hr.imp id ?_⟩
    rintro ⟨pre, ⟨k, hk, hp⟩, hj⟩
    exact ⟨pre, ⟨_, hp.trans (take_filter l k)⟩, hj⟩
  have hlenf : ∀ W, SlabAt 111 W ps g l → Calls Try.prog 24 #[.pointer (some ⟨ps, 0, none⟩)] W (Gives (.int .i64 ((l.filter (·.full)).length : Int)) W) := fun W hW => len_s ps g l hl h0 hx W hW
  rcases Nat.eq_zero_or_pos (l.filterMap heldOf).length with h1 | h1
  · exact has_nil (some ⟨ps, 0, none⟩) g (l.filter (·.full)) w (fun W => SlabAt 111 W ps g l) hS hST l.length hseq hlenf A _ c _ hrd hlen (by omega) hlk h1
  · exact has_some (some ⟨ps, 0, none⟩) g (l.filter (·.full)) w (fun W => SlabAt 111 W ps g l) hS hST l.length hseq hlenf A _ c _ hrd hlen (by omega) hlk h1
end Go.Proofs.Ytpnegofmebfcgaa
