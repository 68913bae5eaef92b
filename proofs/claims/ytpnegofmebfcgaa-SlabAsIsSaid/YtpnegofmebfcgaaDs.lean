/- Slab: New and Drop of one instance. -/
import Derived.Test.YtpnegofmebfcgaaS2
import Derived.Lib.Hide
namespace Go.Proofs.Ytpnegofmebfcgaa
open Go.RowKit
attribute [local go_sem] BW.cell BW.frozen
set_option linter.unusedVariables false

set_option maxHeartbeats 1000000 in
theorem news_lo (n : Int) (w : World) (hn : n < 1) : Calls Try.prog 20 #[.int .i64 n] w (Keeps (.tuple #[.pointer none, .int .i64 1]) w) := by
  go_enter Try.func20, Try.ntmps20
  go_wp2
  go_ret2
  exact keeps_eq rfl
set_option maxHeartbeats 1000000 in
theorem news_hi (n : Int) (w : World) (h0 : ¬ n < 1) (hn : 4096 < n) : Calls Try.prog 20 #[.int .i64 n] w (Keeps (.tuple #[.pointer none, .int .i64 1]) w) := by
  go_enter Try.func20, Try.ntmps20
  go_wp2
  go_ret2
  exact keeps_eq rfl

theorem Try.info111 : (Try.prog.info? 111).map (fun i => (i.zero, i.size, i.bytes)) = some (some (.agg #[.int .i64 0, .int .i64 0, .bool false, .string .empty]), 4, 40) := by kernel_rfl

set_option maxHeartbeats 2000000 in
theorem drops_miss (ps g : Nat) (l : List SL) (hs hg : Int) (w : World) (h : SlabAt 111 w ps g l)
    (K : ∀ w, SlabAt 111 w ps g l → Calls Try.prog 49 #[.pointer (some ⟨ps, 0, none⟩), .agg #[.int .i64 hs, .int .i64 hg]] w (Gives (.pointer none) w)) :
    Calls Try.prog 30 #[.pointer (some ⟨ps, 0, none⟩), .agg #[.int .i64 hs, .int .i64 hg]] w (Gives (.tuple #[.string .empty, .bool false]) w) := by
  have HK := Lib.hid K
  clear K
  go_enter Try.func30, Try.ntmps30
  go_wp2_with fail
  refine (HK.out _ (h.alloc _)).mono ?_
  rintro e w' ⟨rfl, z, rfl⟩
  go_wp2_with fail
  go_ret2
  exact gives_of_eq rfl (((Below.refl _ w).alloc (Nat.le_refl _) _).trans (z.h.mono (by simp)))

set_option maxHeartbeats 2000000 in
theorem drops_hit (ps g i : Nat) (l : List SL) (s : SL) (hs hg : Int) (w : World) (h : SlabAt 111 w ps g l) (hl : l[i]? = some s)
    (K : ∀ w, SlabAt 111 w ps g l → Calls Try.prog 49 #[.pointer (some ⟨ps, 0, none⟩), .agg #[.int .i64 hs, .int .i64 hg]] w (Gives (.pointer (some ⟨g, i * 4, none⟩)) w)) :
    Calls Try.prog 30 #[.pointer (some ⟨ps, 0, none⟩), .agg #[.int .i64 hs, .int .i64 hg]] w fun e w' => e = .returned (.tuple #[s.x, .bool true]) ∧ w.grownBy w' (some g) ∧ SlabAt 111 w' ps g (l.set i { s with full := false, x := .string .empty }) := by
  have HK := Lib.hid K
  clear K
  go_enter Try.func30, Try.ntmps30
  go_wp2_with fail
  refine (HK.out _ (h.alloc _)).mono ?_
  rintro e w' ⟨rfl, z, rfl⟩
  have hz := (h.alloc _).below z.h
  obtain ⟨c0, c1, c2, c3⟩ := hz.at hl
  have f2 := hz.frozen (i * 4 + 2)
  have f3 := hz.frozen (i * 4 + 3)
  have gz : w.grownBy z.i (some g) := ((World.grownBy_alloc w _ (some g))).trans (below_grown z.h)
  go_wp2_with fail
  go_ret2
  refine ⟨rfl, ?_, ?_⟩
  · exact (gz.trans (grownBy_set _ _ _ _)).trans (grownBy_set _ _ _ _)
  · exact hz.drop hl _
end Go.Proofs.Ytpnegofmebfcgaa
