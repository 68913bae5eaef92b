/-
  No cell of these rows narrows 'for every input' (looked for: loops, veiled, ifaces, maps, wideKeys, modest, calm, conditions, laid).
  DERIVED. THE GIVEN ROWS OF THIS SEAT. 3 by the template 'for every input the law returns true; each argument reads behind the call as it read before'; 0 by the template 'total and deterministic' (their statements: YtnooghehmgbemaaTotals.lean).
  GIVEN WITH THE SEED: the statements are not yours to turn. If you find one false, say at which input.
  Laid BY PROGRAM, IN A SANDBOX (cutbox-rows.mjs): the forced cells as the released guide's own fill.sh prints them over the translation c261d8cc7cb4920e… (all of the seat's roots in one cut). By AI agents, Wed Nov 11 2026. No macro, syntax, notation, axiom, sorry.
-/
import Derived.Test.YtnooghehmgbemaaChecked
import GoSem.Claim
import GoSem.ClaimJoined
import GoSem.ClaimMapViews
import Derived.JoinedTies
import Derived.KernelRfl
namespace Go.Proofs.Ytnooghehmgbemaa
/- THE CELL 'sum', in the pinned program and in every row, IS THE sha256 OF THE DUMP (.gsa) THAT YtnooghehmgbemaaProg.lean LOADS. Nothing in Lean hashes anything: it is a label: what it is worth is what the hold of that sum in a sandbox is worth. -/
noncomputable def Try.pinned : Pinned := { name := "ytnooghehmgbemaa", sum := "c261d8cc7cb4920e050f0ed6ca505cbb4cc9aa49f1c43e218bf36f69169c5627", checked := Try.checked }
namespace Rows
def none {H : Type} : Left H := { results := [], args := [] }

/-- 'cabstandlaw24.TripNone': WHATEVER THE INPUT: true; the input reads as it did. -/
def tripNoneSpec : ChangeSpec := { name := "tripNone", fn := fun _ => fun
  | [d] => { results := [.lit (.bool true)], args := [d] }
  | _ => none }
def tripNoneRow : OpenClaim := { program := "ytnooghehmgbemaa", sum := "c261d8cc7cb4920e050f0ed6ca505cbb4cc9aa49f1c43e218bf36f69169c5627", func := "cabstand/cabstandlaw24.TripNone", spec := "tripNone", plainKeys := false, apart := false }
def TripNoneSaid : Prop := tripNoneRow.holds Try.pinned (OpenSpec.ofChange tripNoneSpec)

/-- ITS FALSE NEIGHBOUR: 'it returns false'. Refute it at one input. -/
def tripNoneWrong : ChangeSpec := { name := "tripNone", fn := fun _ => fun
  | [d] => { results := [.lit (.bool false)], args := [d] }
  | _ => none }
def TripNoneWrongFalsely : Prop := tripNoneRow.holds Try.pinned (OpenSpec.ofChange tripNoneWrong)

/-- 'cabstandlaw24.TripKeeps': WHATEVER THE INPUT: true; the input reads as it did. -/
def tripKeepsSpec : ChangeSpec := { name := "tripKeeps", fn := fun _ => fun
  | [d] => { results := [.lit (.bool true)], args := [d] }
  | _ => none }
def tripKeepsRow : OpenClaim := { program := "ytnooghehmgbemaa", sum := "c261d8cc7cb4920e050f0ed6ca505cbb4cc9aa49f1c43e218bf36f69169c5627", func := "cabstand/cabstandlaw24.TripKeeps", spec := "tripKeeps", plainKeys := false, apart := false }
def TripKeepsSaid : Prop := tripKeepsRow.holds Try.pinned (OpenSpec.ofChange tripKeepsSpec)

/-- ITS FALSE NEIGHBOUR: 'it returns false'. Refute it at one input. -/
def tripKeepsWrong : ChangeSpec := { name := "tripKeeps", fn := fun _ => fun
  | [d] => { results := [.lit (.bool false)], args := [d] }
  | _ => none }
def TripKeepsWrongFalsely : Prop := tripKeepsRow.holds Try.pinned (OpenSpec.ofChange tripKeepsWrong)

/-- 'cabstandlaw24.TripEnds': WHATEVER THE INPUT: true; the input reads as it did. -/
def tripEndsSpec : ChangeSpec := { name := "tripEnds", fn := fun _ => fun
  | [d1, d2, d3] => { results := [.lit (.bool true)], args := [d1, d2, d3] }
  | _ => none }
def tripEndsRow : OpenClaim := { program := "ytnooghehmgbemaa", sum := "c261d8cc7cb4920e050f0ed6ca505cbb4cc9aa49f1c43e218bf36f69169c5627", func := "cabstand/cabstandlaw24.TripEnds", spec := "tripEnds", plainKeys := false, apart := false }
def TripEndsSaid : Prop := tripEndsRow.holds Try.pinned (OpenSpec.ofChange tripEndsSpec)

/-- ITS FALSE NEIGHBOUR: 'it returns false'. Refute it at one input. -/
def tripEndsWrong : ChangeSpec := { name := "tripEnds", fn := fun _ => fun
  | [d1, d2, d3] => { results := [.lit (.bool false)], args := [d1, d2, d3] }
  | _ => none }
def TripEndsWrongFalsely : Prop := tripEndsRow.holds Try.pinned (OpenSpec.ofChange tripEndsWrong)

/- THE SECOND FORM. 'bulk': how many values and letters a reading holds, each counted each time it is reached (what is shared counts as often as it is met; a slice's spare places count too). A statement '..UptoSaid' is the law's where the arguments, and the package variables that the reading takes, are together of bulk at most 1048576: NARROWER than '..Said'. Prove '..Said' where nothing that the law and all that it calls make is longer than what came in: it says more and counts as full. Else prove '..UptoSaid'. A law counts once. -/
mutual
def uptoBulk {H : Type} : DataW H → Nat
  | .lit (.string bytes) => bytes.length + 1
  | .lit _ => 1
  | .nil => 1
  | .ptr d => uptoBulk d + 1
  | .slice elems spare => uptoBulkAll elems + uptoBulkAll spare + 1
  | .agg parts => uptoBulkAll parts + 1
  | .iface _ d => uptoBulk d + 1
  | .map entries => uptoBulkEntries entries + 1
  | .held _ => 1
def uptoBulkAll {H : Type} : List (DataW H) → Nat
  | [] => 0
  | d :: r => uptoBulk d + uptoBulkAll r
def uptoBulkEntries {H : Type} : List (Lit × DataW H) → Nat
  | [] => 0
  | x :: r => uptoBulkEntry x + uptoBulkEntries r
def uptoBulkEntry {H : Type} : Lit × DataW H → Nat
  | (.string bytes, d) => bytes.length + uptoBulk d + 1
  | (_, d) => uptoBulk d + 1
 end
def uptoSmall : (H : Type) → List (DataW H) → Bool := fun _ ds => decide (uptoBulkAll ds ≤ 1048576)
def OpenSpec.upto (s : _root_.Go.ChangeSpec) : _root_.Go.OpenSpec := { _root_.Go.OpenSpec.ofChange s with cond := some uptoSmall }

/-- 'cabstandlaw24.TripNone', WHERE WHAT IT READS IS OF BULK AT MOST 1048576: true; the input reads as it did. -/
def tripNoneUptoRow : OpenClaim := { program := "ytnooghehmgbemaa", sum := "c261d8cc7cb4920e050f0ed6ca505cbb4cc9aa49f1c43e218bf36f69169c5627", func := "cabstand/cabstandlaw24.TripNone", spec := "tripNone", plainKeys := false, apart := false, narrowed := true }
def TripNoneUptoSaid : Prop := tripNoneUptoRow.holds Try.pinned (OpenSpec.upto tripNoneSpec)

/-- 'cabstandlaw24.TripKeeps', WHERE WHAT IT READS IS OF BULK AT MOST 1048576: true; the input reads as it did. -/
def tripKeepsUptoRow : OpenClaim := { program := "ytnooghehmgbemaa", sum := "c261d8cc7cb4920e050f0ed6ca505cbb4cc9aa49f1c43e218bf36f69169c5627", func := "cabstand/cabstandlaw24.TripKeeps", spec := "tripKeeps", plainKeys := false, apart := false, narrowed := true }
def TripKeepsUptoSaid : Prop := tripKeepsUptoRow.holds Try.pinned (OpenSpec.upto tripKeepsSpec)

/-- 'cabstandlaw24.TripEnds', WHERE WHAT IT READS IS OF BULK AT MOST 1048576: true; the input reads as it did. -/
def tripEndsUptoRow : OpenClaim := { program := "ytnooghehmgbemaa", sum := "c261d8cc7cb4920e050f0ed6ca505cbb4cc9aa49f1c43e218bf36f69169c5627", func := "cabstand/cabstandlaw24.TripEnds", spec := "tripEnds", plainKeys := false, apart := false, narrowed := true }
def TripEndsUptoSaid : Prop := tripEndsUptoRow.holds Try.pinned (OpenSpec.upto tripEndsSpec)

end Rows
end Go.Proofs.Ytnooghehmgbemaa
