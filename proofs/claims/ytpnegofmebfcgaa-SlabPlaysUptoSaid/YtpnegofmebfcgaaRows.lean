/-
  No cell of these rows narrows 'for every input' (looked for: loops, veiled, ifaces, maps, wideKeys, modest, calm, conditions, laid).
  DERIVED. THE GIVEN ROWS OF THIS SEAT. 5 by the template 'for every input the law returns true; each argument reads behind the call as it read before'; 0 by the template 'total and deterministic' (their statements: YtpnegofmebfcgaaTotals.lean).
  GIVEN WITH THE SEED: the statements are not yours to turn. If you find one false, say at which input.
  Laid BY PROGRAM, IN A SANDBOX (cutbox-rows.mjs): the forced cells as the released guide's own fill.sh prints them over the translation aeb31352228ac4e2… (all of the seat's roots in one cut). By AI agents, Wed Nov 11 2026. No macro, syntax, notation, axiom, sorry.
-/
import Derived.Test.YtpnegofmebfcgaaChecked
import GoSem.Claim
import GoSem.ClaimJoined
import GoSem.ClaimMapViews
import Derived.JoinedTies
import Derived.KernelRfl
namespace Go.Proofs.Ytpnegofmebfcgaa
/- THE CELL 'sum', in the pinned program and in every row, IS THE sha256 OF THE DUMP (.gsa) THAT YtpnegofmebfcgaaProg.lean LOADS. Nothing in Lean hashes anything: it is a label: what it is worth is what the hold of that sum in a sandbox is worth. -/
noncomputable def Try.pinned : Pinned := { name := "ytpnegofmebfcgaa", sum := "aeb31352228ac4e2a37935a725d306dd50773be76ddffd24b41a977373d66cb8", checked := Try.checked }
namespace Rows
def none {H : Type} : Left H := { results := [], args := [] }

/-- 'cabstandlaw08.SlabAsIs': WHATEVER THE INPUT: true; the input reads as it did. -/
def slabAsIsSpec : ChangeSpec := { name := "slabAsIs", fn := fun _ => fun
  | [d1, d2] => { results := [.lit (.bool true)], args := [d1, d2] }
  | _ => none }
def slabAsIsRow : OpenClaim := { program := "ytpnegofmebfcgaa", sum := "aeb31352228ac4e2a37935a725d306dd50773be76ddffd24b41a977373d66cb8", func := "cabstand/cabstandlaw08.SlabAsIs", spec := "slabAsIs", unfollowed := true, recurses := true, apart := false }
def SlabAsIsSaid : Prop := slabAsIsRow.holds Try.pinned (OpenSpec.ofChange slabAsIsSpec)

/-- ITS FALSE NEIGHBOUR: 'it returns false'. Refute it at one input. -/
def slabAsIsWrong : ChangeSpec := { name := "slabAsIs", fn := fun _ => fun
  | [d1, d2] => { results := [.lit (.bool false)], args := [d1, d2] }
  | _ => none }
def SlabAsIsWrongFalsely : Prop := slabAsIsRow.holds Try.pinned (OpenSpec.ofChange slabAsIsWrong)

/-- 'cabstandlaw08.SlabNames': WHATEVER THE INPUT: true; the input reads as it did. -/
def slabNamesSpec : ChangeSpec := { name := "slabNames", fn := fun _ => fun
  | [] => { results := [.lit (.bool true)], args := [] }
  | _ => none }
def slabNamesRow : OpenClaim := { program := "ytpnegofmebfcgaa", sum := "aeb31352228ac4e2a37935a725d306dd50773be76ddffd24b41a977373d66cb8", func := "cabstand/cabstandlaw08.SlabNames", spec := "slabNames", unfollowed := true, recurses := true, apart := false }
def SlabNamesSaid : Prop := slabNamesRow.holds Try.pinned (OpenSpec.ofChange slabNamesSpec)

/-- ITS FALSE NEIGHBOUR: 'it returns false'. Refute it at one input. -/
def slabNamesWrong : ChangeSpec := { name := "slabNames", fn := fun _ => fun
  | [] => { results := [.lit (.bool false)], args := [] }
  | _ => none }
def SlabNamesWrongFalsely : Prop := slabNamesRow.holds Try.pinned (OpenSpec.ofChange slabNamesWrong)

/-- 'cabstandlaw08.SlabPlays': WHATEVER THE INPUT: true; the input reads as it did. -/
def slabPlaysSpec : ChangeSpec := { name := "slabPlays", fn := fun _ => fun
  | [d1, d2, d3] => { results := [.lit (.bool true)], args := [d1, d2, d3] }
  | _ => none }
def slabPlaysRow : OpenClaim := { program := "ytpnegofmebfcgaa", sum := "aeb31352228ac4e2a37935a725d306dd50773be76ddffd24b41a977373d66cb8", func := "cabstand/cabstandlaw08.SlabPlays", spec := "slabPlays", unfollowed := true, recurses := true, apart := false }
def SlabPlaysSaid : Prop := slabPlaysRow.holds Try.pinned (OpenSpec.ofChange slabPlaysSpec)

/-- ITS FALSE NEIGHBOUR: 'it returns false'. Refute it at one input. -/
def slabPlaysWrong : ChangeSpec := { name := "slabPlays", fn := fun _ => fun
  | [d1, d2, d3] => { results := [.lit (.bool false)], args := [d1, d2, d3] }
  | _ => none }
def SlabPlaysWrongFalsely : Prop := slabPlaysRow.holds Try.pinned (OpenSpec.ofChange slabPlaysWrong)

/-- 'cabstandlaw08.SlabRanges': WHATEVER THE INPUT: true; the input reads as it did. -/
def slabRangesSpec : ChangeSpec := { name := "slabRanges", fn := fun _ => fun
  | [d1, d2, d3, d4] => { results := [.lit (.bool true)], args := [d1, d2, d3, d4] }
  | _ => none }
def slabRangesRow : OpenClaim := { program := "ytpnegofmebfcgaa", sum := "aeb31352228ac4e2a37935a725d306dd50773be76ddffd24b41a977373d66cb8", func := "cabstand/cabstandlaw08.SlabRanges", spec := "slabRanges", unfollowed := true, recurses := true, apart := false }
def SlabRangesSaid : Prop := slabRangesRow.holds Try.pinned (OpenSpec.ofChange slabRangesSpec)

/-- ITS FALSE NEIGHBOUR: 'it returns false'. Refute it at one input. -/
def slabRangesWrong : ChangeSpec := { name := "slabRanges", fn := fun _ => fun
  | [d1, d2, d3, d4] => { results := [.lit (.bool false)], args := [d1, d2, d3, d4] }
  | _ => none }
def SlabRangesWrongFalsely : Prop := slabRangesRow.holds Try.pinned (OpenSpec.ofChange slabRangesWrong)

/-- 'cabstandlaw08.SlabOnce': WHATEVER THE INPUT: true; the input reads as it did. -/
def slabOnceSpec : ChangeSpec := { name := "slabOnce", fn := fun _ => fun
  | [d1, d2] => { results := [.lit (.bool true)], args := [d1, d2] }
  | _ => none }
def slabOnceRow : OpenClaim := { program := "ytpnegofmebfcgaa", sum := "aeb31352228ac4e2a37935a725d306dd50773be76ddffd24b41a977373d66cb8", func := "cabstand/cabstandlaw08.SlabOnce", spec := "slabOnce", unfollowed := true, recurses := true, apart := false }
def SlabOnceSaid : Prop := slabOnceRow.holds Try.pinned (OpenSpec.ofChange slabOnceSpec)

/-- ITS FALSE NEIGHBOUR: 'it returns false'. Refute it at one input. -/
def slabOnceWrong : ChangeSpec := { name := "slabOnce", fn := fun _ => fun
  | [d1, d2] => { results := [.lit (.bool false)], args := [d1, d2] }
  | _ => none }
def SlabOnceWrongFalsely : Prop := slabOnceRow.holds Try.pinned (OpenSpec.ofChange slabOnceWrong)

/- THE SECOND FORM. 'bulk': how many values and letters a reading holds, each counted each time it is reached (what is shared counts as often as it is met; a slice's spare places count too). A statement '..UptoSaid' is the law's where the arguments, and the package variables that the reading takes, are together of bulk at most 1048576: NARROWER than '..Said'. Prove '..Said' where nothing that the law and all that it calls make is longer than what came in: it says more and counts as full. Else prove '..UptoSaid'. A law counts once. -/
mutual
def uptoBulk {H : Type} : DataW H → Nat
  | .lit (.string bytes) => bytes.length + 1
  | .lit _ => 1
  | .nil => 1
  | .ptr d => uptoBulk d + 1
  | .slice elems spare => uptoBulkAll elems + uptoBulkAll spare + 1
  | .agg parts => uptoBulkAll parts + 1
  | .iface _ d => uptoBulk d + 1
  | .map entries => uptoBulkEntries entries + 1
  | .held _ => 1
def uptoBulkAll {H : Type} : List (DataW H) → Nat
  | [] => 0
  | d :: r => uptoBulk d + uptoBulkAll r
def uptoBulkEntries {H : Type} : List (Lit × DataW H) → Nat
  | [] => 0
  | x :: r => uptoBulkEntry x + uptoBulkEntries r
def uptoBulkEntry {H : Type} : Lit × DataW H → Nat
  | (.string bytes, d) => bytes.length + uptoBulk d + 1
  | (_, d) => uptoBulk d + 1
 end
def uptoSmall : (H : Type) → List (DataW H) → Bool := fun _ ds => decide (uptoBulkAll ds ≤ 1048576)
def OpenSpec.upto (s : _root_.Go.ChangeSpec) : _root_.Go.OpenSpec := { _root_.Go.OpenSpec.ofChange s with cond := some uptoSmall }

/-- 'cabstandlaw08.SlabAsIs', WHERE WHAT IT READS IS OF BULK AT MOST 1048576: true; the input reads as it did. -/
def slabAsIsUptoRow : OpenClaim := { program := "ytpnegofmebfcgaa", sum := "aeb31352228ac4e2a37935a725d306dd50773be76ddffd24b41a977373d66cb8", func := "cabstand/cabstandlaw08.SlabAsIs", spec := "slabAsIs", unfollowed := true, recurses := true, apart := false, narrowed := true }
def SlabAsIsUptoSaid : Prop := slabAsIsUptoRow.holds Try.pinned (OpenSpec.upto slabAsIsSpec)

/-- 'cabstandlaw08.SlabNames', WHERE WHAT IT READS IS OF BULK AT MOST 1048576: true; the input reads as it did. -/
def slabNamesUptoRow : OpenClaim := { program := "ytpnegofmebfcgaa", sum := "aeb31352228ac4e2a37935a725d306dd50773be76ddffd24b41a977373d66cb8", func := "cabstand/cabstandlaw08.SlabNames", spec := "slabNames", unfollowed := true, recurses := true, apart := false, narrowed := true }
def SlabNamesUptoSaid : Prop := slabNamesUptoRow.holds Try.pinned (OpenSpec.upto slabNamesSpec)

/-- 'cabstandlaw08.SlabPlays', WHERE WHAT IT READS IS OF BULK AT MOST 1048576: true; the input reads as it did. -/
def slabPlaysUptoRow : OpenClaim := { program := "ytpnegofmebfcgaa", sum := "aeb31352228ac4e2a37935a725d306dd50773be76ddffd24b41a977373d66cb8", func := "cabstand/cabstandlaw08.SlabPlays", spec := "slabPlays", unfollowed := true, recurses := true, apart := false, narrowed := true }
def SlabPlaysUptoSaid : Prop := slabPlaysUptoRow.holds Try.pinned (OpenSpec.upto slabPlaysSpec)

/-- 'cabstandlaw08.SlabRanges', WHERE WHAT IT READS IS OF BULK AT MOST 1048576: true; the input reads as it did. -/
def slabRangesUptoRow : OpenClaim := { program := "ytpnegofmebfcgaa", sum := "aeb31352228ac4e2a37935a725d306dd50773be76ddffd24b41a977373d66cb8", func := "cabstand/cabstandlaw08.SlabRanges", spec := "slabRanges", unfollowed := true, recurses := true, apart := false, narrowed := true }
def SlabRangesUptoSaid : Prop := slabRangesUptoRow.holds Try.pinned (OpenSpec.upto slabRangesSpec)

/-- 'cabstandlaw08.SlabOnce', WHERE WHAT IT READS IS OF BULK AT MOST 1048576: true; the input reads as it did. -/
def slabOnceUptoRow : OpenClaim := { program := "ytpnegofmebfcgaa", sum := "aeb31352228ac4e2a37935a725d306dd50773be76ddffd24b41a977373d66cb8", func := "cabstand/cabstandlaw08.SlabOnce", spec := "slabOnce", unfollowed := true, recurses := true, apart := false, narrowed := true }
def SlabOnceUptoSaid : Prop := slabOnceUptoRow.holds Try.pinned (OpenSpec.upto slabOnceSpec)

end Rows
end Go.Proofs.Ytpnegofmebfcgaa
