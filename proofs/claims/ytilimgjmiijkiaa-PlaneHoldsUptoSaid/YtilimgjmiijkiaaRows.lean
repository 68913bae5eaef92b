/-
  No cell of these rows narrows 'for every input' (looked for: loops, veiled, ifaces, maps, wideKeys, modest, calm, conditions, laid).
  DERIVED. THE GIVEN ROWS OF THIS SEAT. 18 by the template 'for every input the law returns true; each argument reads behind the call as it read before'; 0 by the template 'total and deterministic' (their statements: YtilimgjmiijkiaaTotals.lean).
  GIVEN WITH THE SEED: the statements are not yours to turn. If you find one false, say at which input.
  Laid BY PROGRAM, IN A SANDBOX (cutbox-rows.mjs): the forced cells as the released guide's own fill.sh prints them over the translation 8b19203307701868… (all of the seat's roots in one cut). By AI agents, Wed Nov 11 2026. No macro, syntax, notation, axiom, sorry.
-/
import Derived.Test.YtilimgjmiijkiaaChecked
import GoSem.Claim
import GoSem.ClaimJoined
import GoSem.ClaimMapViews
import Derived.JoinedTies
import Derived.KernelRfl
namespace Go.Proofs.Ytilimgjmiijkiaa
/- THE CELL 'sum', in the pinned program and in every row, IS THE sha256 OF THE DUMP (.gsa) THAT YtilimgjmiijkiaaProg.lean LOADS. Nothing in Lean hashes anything: it is a label: what it is worth is what the hold of that sum in a sandbox is worth. -/
noncomputable def Try.pinned : Pinned := { name := "ytilimgjmiijkiaa", sum := "8b192033077018687a8c88a6b1bdb2d90a8a6080f85afbc2d17d78daa7000718", checked := Try.checked }
namespace Rows
def none {H : Type} : Left H := { results := [], args := [] }

/-- 'cabstandlaw05.PlaneDists': WHATEVER THE INPUT: true; the input reads as it did. -/
def planeDistsSpec : ChangeSpec := { name := "planeDists", fn := fun _ => fun
  | [d1, d2] => { results := [.lit (.bool true)], args := [d1, d2] }
  | _ => none }
def planeDistsRow : OpenClaim := { program := "ytilimgjmiijkiaa", sum := "8b192033077018687a8c88a6b1bdb2d90a8a6080f85afbc2d17d78daa7000718", func := "cabstand/cabstandlaw05.PlaneDists", spec := "planeDists", inPlace := ["math.archTrunc", "math.Float64bits", "math.Float64frombits"], unfollowed := true, recurses := true, apart := false }
def PlaneDistsSaid : Prop := planeDistsRow.holds Try.pinned (OpenSpec.ofChange planeDistsSpec)

/-- ITS FALSE NEIGHBOUR: 'it returns false'. Refute it at one input. -/
def planeDistsWrong : ChangeSpec := { name := "planeDists", fn := fun _ => fun
  | [d1, d2] => { results := [.lit (.bool false)], args := [d1, d2] }
  | _ => none }
def PlaneDistsWrongFalsely : Prop := planeDistsRow.holds Try.pinned (OpenSpec.ofChange planeDistsWrong)

/-- 'cabstandlaw05.PlaneSteps': WHATEVER THE INPUT: true; the input reads as it did. -/
def planeStepsSpec : ChangeSpec := { name := "planeSteps", fn := fun _ => fun
  | [d1, d2, d3] => { results := [.lit (.bool true)], args := [d1, d2, d3] }
  | _ => none }
def planeStepsRow : OpenClaim := { program := "ytilimgjmiijkiaa", sum := "8b192033077018687a8c88a6b1bdb2d90a8a6080f85afbc2d17d78daa7000718", func := "cabstand/cabstandlaw05.PlaneSteps", spec := "planeSteps", inPlace := ["math.archTrunc", "math.Float64bits", "math.Float64frombits"], unfollowed := true, recurses := true, apart := false }
def PlaneStepsSaid : Prop := planeStepsRow.holds Try.pinned (OpenSpec.ofChange planeStepsSpec)

/-- ITS FALSE NEIGHBOUR: 'it returns false'. Refute it at one input. -/
def planeStepsWrong : ChangeSpec := { name := "planeSteps", fn := fun _ => fun
  | [d1, d2, d3] => { results := [.lit (.bool false)], args := [d1, d2, d3] }
  | _ => none }
def PlaneStepsWrongFalsely : Prop := planeStepsRow.holds Try.pinned (OpenSpec.ofChange planeStepsWrong)

/-- 'cabstandlaw05.PlaneJoins': WHATEVER THE INPUT: true; the input reads as it did. -/
def planeJoinsSpec : ChangeSpec := { name := "planeJoins", fn := fun _ => fun
  | [d] => { results := [.lit (.bool true)], args := [d] }
  | _ => none }
def planeJoinsRow : OpenClaim := { program := "ytilimgjmiijkiaa", sum := "8b192033077018687a8c88a6b1bdb2d90a8a6080f85afbc2d17d78daa7000718", func := "cabstand/cabstandlaw05.PlaneJoins", spec := "planeJoins", inPlace := ["math.archTrunc", "math.Float64bits", "math.Float64frombits"], unfollowed := true, recurses := true, apart := false }
def PlaneJoinsSaid : Prop := planeJoinsRow.holds Try.pinned (OpenSpec.ofChange planeJoinsSpec)

/-- ITS FALSE NEIGHBOUR: 'it returns false'. Refute it at one input. -/
def planeJoinsWrong : ChangeSpec := { name := "planeJoins", fn := fun _ => fun
  | [d] => { results := [.lit (.bool false)], args := [d] }
  | _ => none }
def PlaneJoinsWrongFalsely : Prop := planeJoinsRow.holds Try.pinned (OpenSpec.ofChange planeJoinsWrong)

/-- 'cabstandlaw05.PlaneTos': WHATEVER THE INPUT: true; the input reads as it did. -/
def planeTosSpec : ChangeSpec := { name := "planeTos", fn := fun _ => fun
  | [d] => { results := [.lit (.bool true)], args := [d] }
  | _ => none }
def planeTosRow : OpenClaim := { program := "ytilimgjmiijkiaa", sum := "8b192033077018687a8c88a6b1bdb2d90a8a6080f85afbc2d17d78daa7000718", func := "cabstand/cabstandlaw05.PlaneTos", spec := "planeTos", inPlace := ["math.Float64bits", "math.archTrunc", "math.Float64frombits"], unfollowed := true, recurses := true, apart := false }
def PlaneTosSaid : Prop := planeTosRow.holds Try.pinned (OpenSpec.ofChange planeTosSpec)

/-- ITS FALSE NEIGHBOUR: 'it returns false'. Refute it at one input. -/
def planeTosWrong : ChangeSpec := { name := "planeTos", fn := fun _ => fun
  | [d] => { results := [.lit (.bool false)], args := [d] }
  | _ => none }
def PlaneTosWrongFalsely : Prop := planeTosRow.holds Try.pinned (OpenSpec.ofChange planeTosWrong)

/-- 'cabstandlaw05.PlaneFroms': WHATEVER THE INPUT: true; the input reads as it did. -/
def planeFromsSpec : ChangeSpec := { name := "planeFroms", fn := fun _ => fun
  | [d1, d2] => { results := [.lit (.bool true)], args := [d1, d2] }
  | _ => none }
def planeFromsRow : OpenClaim := { program := "ytilimgjmiijkiaa", sum := "8b192033077018687a8c88a6b1bdb2d90a8a6080f85afbc2d17d78daa7000718", func := "cabstand/cabstandlaw05.PlaneFroms", spec := "planeFroms", inPlace := ["math.Float64frombits", "math.archTrunc", "math.Float64bits"], unfollowed := true, recurses := true, apart := false }
def PlaneFromsSaid : Prop := planeFromsRow.holds Try.pinned (OpenSpec.ofChange planeFromsSpec)

/-- ITS FALSE NEIGHBOUR: 'it returns false'. Refute it at one input. -/
def planeFromsWrong : ChangeSpec := { name := "planeFroms", fn := fun _ => fun
  | [d1, d2] => { results := [.lit (.bool false)], args := [d1, d2] }
  | _ => none }
def PlaneFromsWrongFalsely : Prop := planeFromsRow.holds Try.pinned (OpenSpec.ofChange planeFromsWrong)

/-- 'cabstandlaw05.PlaneTurns': WHATEVER THE INPUT: true; the input reads as it did. -/
def planeTurnsSpec : ChangeSpec := { name := "planeTurns", fn := fun _ => fun
  | [d1, d2, d3] => { results := [.lit (.bool true)], args := [d1, d2, d3] }
  | _ => none }
def planeTurnsRow : OpenClaim := { program := "ytilimgjmiijkiaa", sum := "8b192033077018687a8c88a6b1bdb2d90a8a6080f85afbc2d17d78daa7000718", func := "cabstand/cabstandlaw05.PlaneTurns", spec := "planeTurns", inPlace := ["math.archTrunc", "math.Float64bits", "math.Float64frombits"], unfollowed := true, recurses := true, apart := false }
def PlaneTurnsSaid : Prop := planeTurnsRow.holds Try.pinned (OpenSpec.ofChange planeTurnsSpec)

/-- ITS FALSE NEIGHBOUR: 'it returns false'. Refute it at one input. -/
def planeTurnsWrong : ChangeSpec := { name := "planeTurns", fn := fun _ => fun
  | [d1, d2, d3] => { results := [.lit (.bool false)], args := [d1, d2, d3] }
  | _ => none }
def PlaneTurnsWrongFalsely : Prop := planeTurnsRow.holds Try.pinned (OpenSpec.ofChange planeTurnsWrong)

/-- 'cabstandlaw05.PlaneMiddles': WHATEVER THE INPUT: true; the input reads as it did. -/
def planeMiddlesSpec : ChangeSpec := { name := "planeMiddles", fn := fun _ => fun
  | [d] => { results := [.lit (.bool true)], args := [d] }
  | _ => none }
def planeMiddlesRow : OpenClaim := { program := "ytilimgjmiijkiaa", sum := "8b192033077018687a8c88a6b1bdb2d90a8a6080f85afbc2d17d78daa7000718", func := "cabstand/cabstandlaw05.PlaneMiddles", spec := "planeMiddles", inPlace := ["math.Float64bits", "math.archTrunc", "math.Float64frombits"], unfollowed := true, recurses := true, apart := false }
def PlaneMiddlesSaid : Prop := planeMiddlesRow.holds Try.pinned (OpenSpec.ofChange planeMiddlesSpec)

/-- ITS FALSE NEIGHBOUR: 'it returns false'. Refute it at one input. -/
def planeMiddlesWrong : ChangeSpec := { name := "planeMiddles", fn := fun _ => fun
  | [d] => { results := [.lit (.bool false)], args := [d] }
  | _ => none }
def PlaneMiddlesWrongFalsely : Prop := planeMiddlesRow.holds Try.pinned (OpenSpec.ofChange planeMiddlesWrong)

/-- 'cabstandlaw05.PlaneSectors': WHATEVER THE INPUT: true; the input reads as it did. -/
def planeSectorsSpec : ChangeSpec := { name := "planeSectors", fn := fun _ => fun
  | [d1, d2] => { results := [.lit (.bool true)], args := [d1, d2] }
  | _ => none }
def planeSectorsRow : OpenClaim := { program := "ytilimgjmiijkiaa", sum := "8b192033077018687a8c88a6b1bdb2d90a8a6080f85afbc2d17d78daa7000718", func := "cabstand/cabstandlaw05.PlaneSectors", spec := "planeSectors", inPlace := ["math.Float64frombits", "math.Float64bits", "math.archTrunc"], unfollowed := true, recurses := true, apart := false }
def PlaneSectorsSaid : Prop := planeSectorsRow.holds Try.pinned (OpenSpec.ofChange planeSectorsSpec)

/-- ITS FALSE NEIGHBOUR: 'it returns false'. Refute it at one input. -/
def planeSectorsWrong : ChangeSpec := { name := "planeSectors", fn := fun _ => fun
  | [d1, d2] => { results := [.lit (.bool false)], args := [d1, d2] }
  | _ => none }
def PlaneSectorsWrongFalsely : Prop := planeSectorsRow.holds Try.pinned (OpenSpec.ofChange planeSectorsWrong)

/-- 'cabstandlaw05.PlaneMetric': WHATEVER THE INPUT: true; the input reads as it did. -/
def planeMetricSpec : ChangeSpec := { name := "planeMetric", fn := fun _ => fun
  | [d1, d2, d3] => { results := [.lit (.bool true)], args := [d1, d2, d3] }
  | _ => none }
def planeMetricRow : OpenClaim := { program := "ytilimgjmiijkiaa", sum := "8b192033077018687a8c88a6b1bdb2d90a8a6080f85afbc2d17d78daa7000718", func := "cabstand/cabstandlaw05.PlaneMetric", spec := "planeMetric", inPlace := ["math.archTrunc", "math.Float64bits", "math.Float64frombits"], unfollowed := true, recurses := true, apart := false }
def PlaneMetricSaid : Prop := planeMetricRow.holds Try.pinned (OpenSpec.ofChange planeMetricSpec)

/-- ITS FALSE NEIGHBOUR: 'it returns false'. Refute it at one input. -/
def planeMetricWrong : ChangeSpec := { name := "planeMetric", fn := fun _ => fun
  | [d1, d2, d3] => { results := [.lit (.bool false)], args := [d1, d2, d3] }
  | _ => none }
def PlaneMetricWrongFalsely : Prop := planeMetricRow.holds Try.pinned (OpenSpec.ofChange planeMetricWrong)

/-- 'cabstandlaw05.PlaneWay': WHATEVER THE INPUT: true; the input reads as it did. -/
def planeWaySpec : ChangeSpec := { name := "planeWay", fn := fun _ => fun
  | [d1, d2, d3, d4] => { results := [.lit (.bool true)], args := [d1, d2, d3, d4] }
  | _ => none }
def planeWayRow : OpenClaim := { program := "ytilimgjmiijkiaa", sum := "8b192033077018687a8c88a6b1bdb2d90a8a6080f85afbc2d17d78daa7000718", func := "cabstand/cabstandlaw05.PlaneWay", spec := "planeWay", inPlace := ["math.archTrunc", "math.Float64bits", "math.Float64frombits"], unfollowed := true, recurses := true, apart := false }
def PlaneWaySaid : Prop := planeWayRow.holds Try.pinned (OpenSpec.ofChange planeWaySpec)

/-- ITS FALSE NEIGHBOUR: 'it returns false'. Refute it at one input. -/
def planeWayWrong : ChangeSpec := { name := "planeWay", fn := fun _ => fun
  | [d1, d2, d3, d4] => { results := [.lit (.bool false)], args := [d1, d2, d3, d4] }
  | _ => none }
def PlaneWayWrongFalsely : Prop := planeWayRow.holds Try.pinned (OpenSpec.ofChange planeWayWrong)

/-- 'cabstandlaw05.PlaneBack': WHATEVER THE INPUT: true; the input reads as it did. -/
def planeBackSpec : ChangeSpec := { name := "planeBack", fn := fun _ => fun
  | [d] => { results := [.lit (.bool true)], args := [d] }
  | _ => none }
def planeBackRow : OpenClaim := { program := "ytilimgjmiijkiaa", sum := "8b192033077018687a8c88a6b1bdb2d90a8a6080f85afbc2d17d78daa7000718", func := "cabstand/cabstandlaw05.PlaneBack", spec := "planeBack", inPlace := ["math.archTrunc", "math.Float64bits", "math.Float64frombits"], unfollowed := true, recurses := true, apart := false }
def PlaneBackSaid : Prop := planeBackRow.holds Try.pinned (OpenSpec.ofChange planeBackSpec)

/-- ITS FALSE NEIGHBOUR: 'it returns false'. Refute it at one input. -/
def planeBackWrong : ChangeSpec := { name := "planeBack", fn := fun _ => fun
  | [d] => { results := [.lit (.bool false)], args := [d] }
  | _ => none }
def PlaneBackWrongFalsely : Prop := planeBackRow.holds Try.pinned (OpenSpec.ofChange planeBackWrong)

/-- 'cabstandlaw05.PlaneQuarters': WHATEVER THE INPUT: true; the input reads as it did. -/
def planeQuartersSpec : ChangeSpec := { name := "planeQuarters", fn := fun _ => fun
  | [d1, d2, d3, d4] => { results := [.lit (.bool true)], args := [d1, d2, d3, d4] }
  | _ => none }
def planeQuartersRow : OpenClaim := { program := "ytilimgjmiijkiaa", sum := "8b192033077018687a8c88a6b1bdb2d90a8a6080f85afbc2d17d78daa7000718", func := "cabstand/cabstandlaw05.PlaneQuarters", spec := "planeQuarters", inPlace := ["math.archTrunc", "math.Float64bits", "math.Float64frombits"], unfollowed := true, recurses := true, apart := false }
def PlaneQuartersSaid : Prop := planeQuartersRow.holds Try.pinned (OpenSpec.ofChange planeQuartersSpec)

/-- ITS FALSE NEIGHBOUR: 'it returns false'. Refute it at one input. -/
def planeQuartersWrong : ChangeSpec := { name := "planeQuarters", fn := fun _ => fun
  | [d1, d2, d3, d4] => { results := [.lit (.bool false)], args := [d1, d2, d3, d4] }
  | _ => none }
def PlaneQuartersWrongFalsely : Prop := planeQuartersRow.holds Try.pinned (OpenSpec.ofChange planeQuartersWrong)

/-- 'cabstandlaw05.PlaneWinds': WHATEVER THE INPUT: true; the input reads as it did. -/
def planeWindsSpec : ChangeSpec := { name := "planeWinds", fn := fun _ => fun
  | [d1, d2] => { results := [.lit (.bool true)], args := [d1, d2] }
  | _ => none }
def planeWindsRow : OpenClaim := { program := "ytilimgjmiijkiaa", sum := "8b192033077018687a8c88a6b1bdb2d90a8a6080f85afbc2d17d78daa7000718", func := "cabstand/cabstandlaw05.PlaneWinds", spec := "planeWinds", inPlace := ["math.Float64frombits", "math.Float64bits", "math.archTrunc"], unfollowed := true, recurses := true, apart := false }
def PlaneWindsSaid : Prop := planeWindsRow.holds Try.pinned (OpenSpec.ofChange planeWindsSpec)

/-- ITS FALSE NEIGHBOUR: 'it returns false'. Refute it at one input. -/
def planeWindsWrong : ChangeSpec := { name := "planeWinds", fn := fun _ => fun
  | [d1, d2] => { results := [.lit (.bool false)], args := [d1, d2] }
  | _ => none }
def PlaneWindsWrongFalsely : Prop := planeWindsRow.holds Try.pinned (OpenSpec.ofChange planeWindsWrong)

/-- 'cabstandlaw05.PlaneArounds': WHATEVER THE INPUT: true; the input reads as it did. -/
def planeAroundsSpec : ChangeSpec := { name := "planeArounds", fn := fun _ => fun
  | [d1, d2, d3] => { results := [.lit (.bool true)], args := [d1, d2, d3] }
  | _ => none }
def planeAroundsRow : OpenClaim := { program := "ytilimgjmiijkiaa", sum := "8b192033077018687a8c88a6b1bdb2d90a8a6080f85afbc2d17d78daa7000718", func := "cabstand/cabstandlaw05.PlaneArounds", spec := "planeArounds", inPlace := ["math.archTrunc", "math.Float64bits", "math.Float64frombits"], unfollowed := true, recurses := true, apart := false }
def PlaneAroundsSaid : Prop := planeAroundsRow.holds Try.pinned (OpenSpec.ofChange planeAroundsSpec)

/-- ITS FALSE NEIGHBOUR: 'it returns false'. Refute it at one input. -/
def planeAroundsWrong : ChangeSpec := { name := "planeArounds", fn := fun _ => fun
  | [d1, d2, d3] => { results := [.lit (.bool false)], args := [d1, d2, d3] }
  | _ => none }
def PlaneAroundsWrongFalsely : Prop := planeAroundsRow.holds Try.pinned (OpenSpec.ofChange planeAroundsWrong)

/-- 'cabstandlaw05.PlaneBoxes': WHATEVER THE INPUT: true; the input reads as it did. -/
def planeBoxesSpec : ChangeSpec := { name := "planeBoxes", fn := fun _ => fun
  | [d1, d2] => { results := [.lit (.bool true)], args := [d1, d2] }
  | _ => none }
def planeBoxesRow : OpenClaim := { program := "ytilimgjmiijkiaa", sum := "8b192033077018687a8c88a6b1bdb2d90a8a6080f85afbc2d17d78daa7000718", func := "cabstand/cabstandlaw05.PlaneBoxes", spec := "planeBoxes", inPlace := ["math.archTrunc", "math.Float64bits", "math.Float64frombits"], unfollowed := true, recurses := true, apart := false }
def PlaneBoxesSaid : Prop := planeBoxesRow.holds Try.pinned (OpenSpec.ofChange planeBoxesSpec)

/-- ITS FALSE NEIGHBOUR: 'it returns false'. Refute it at one input. -/
def planeBoxesWrong : ChangeSpec := { name := "planeBoxes", fn := fun _ => fun
  | [d1, d2] => { results := [.lit (.bool false)], args := [d1, d2] }
  | _ => none }
def PlaneBoxesWrongFalsely : Prop := planeBoxesRow.holds Try.pinned (OpenSpec.ofChange planeBoxesWrong)

/-- 'cabstandlaw05.PlaneLeast': WHATEVER THE INPUT: true; the input reads as it did. -/
def planeLeastSpec : ChangeSpec := { name := "planeLeast", fn := fun _ => fun
  | [d1, d2, d3] => { results := [.lit (.bool true)], args := [d1, d2, d3] }
  | _ => none }
def planeLeastRow : OpenClaim := { program := "ytilimgjmiijkiaa", sum := "8b192033077018687a8c88a6b1bdb2d90a8a6080f85afbc2d17d78daa7000718", func := "cabstand/cabstandlaw05.PlaneLeast", spec := "planeLeast", inPlace := ["math.archTrunc", "math.Float64bits", "math.Float64frombits"], unfollowed := true, recurses := true, apart := false }
def PlaneLeastSaid : Prop := planeLeastRow.holds Try.pinned (OpenSpec.ofChange planeLeastSpec)

/-- ITS FALSE NEIGHBOUR: 'it returns false'. Refute it at one input. -/
def planeLeastWrong : ChangeSpec := { name := "planeLeast", fn := fun _ => fun
  | [d1, d2, d3] => { results := [.lit (.bool false)], args := [d1, d2, d3] }
  | _ => none }
def PlaneLeastWrongFalsely : Prop := planeLeastRow.holds Try.pinned (OpenSpec.ofChange planeLeastWrong)

/-- 'cabstandlaw05.PlaneHolds': WHATEVER THE INPUT: true; the input reads as it did. -/
def planeHoldsSpec : ChangeSpec := { name := "planeHolds", fn := fun _ => fun
  | [d] => { results := [.lit (.bool true)], args := [d] }
  | _ => none }
def planeHoldsRow : OpenClaim := { program := "ytilimgjmiijkiaa", sum := "8b192033077018687a8c88a6b1bdb2d90a8a6080f85afbc2d17d78daa7000718", func := "cabstand/cabstandlaw05.PlaneHolds", spec := "planeHolds", inPlace := ["math.archTrunc", "math.Float64bits", "math.Float64frombits"], unfollowed := true, recurses := true, apart := false }
def PlaneHoldsSaid : Prop := planeHoldsRow.holds Try.pinned (OpenSpec.ofChange planeHoldsSpec)

/-- ITS FALSE NEIGHBOUR: 'it returns false'. Refute it at one input. -/
def planeHoldsWrong : ChangeSpec := { name := "planeHolds", fn := fun _ => fun
  | [d] => { results := [.lit (.bool false)], args := [d] }
  | _ => none }
def PlaneHoldsWrongFalsely : Prop := planeHoldsRow.holds Try.pinned (OpenSpec.ofChange planeHoldsWrong)

/-- 'cabstandlaw05.PlaneNames': WHATEVER THE INPUT: true; the input reads as it did. -/
def planeNamesSpec : ChangeSpec := { name := "planeNames", fn := fun _ => fun
  | [] => { results := [.lit (.bool true)], args := [] }
  | _ => none }
def planeNamesRow : OpenClaim := { program := "ytilimgjmiijkiaa", sum := "8b192033077018687a8c88a6b1bdb2d90a8a6080f85afbc2d17d78daa7000718", func := "cabstand/cabstandlaw05.PlaneNames", spec := "planeNames", inPlace := ["math.archTrunc", "math.Float64bits", "math.Float64frombits"], unfollowed := true, recurses := true, apart := false }
def PlaneNamesSaid : Prop := planeNamesRow.holds Try.pinned (OpenSpec.ofChange planeNamesSpec)

/-- ITS FALSE NEIGHBOUR: 'it returns false'. Refute it at one input. -/
def planeNamesWrong : ChangeSpec := { name := "planeNames", fn := fun _ => fun
  | [] => { results := [.lit (.bool false)], args := [] }
  | _ => none }
def PlaneNamesWrongFalsely : Prop := planeNamesRow.holds Try.pinned (OpenSpec.ofChange planeNamesWrong)

/- THE SECOND FORM. 'bulk': how many values and letters a reading holds, each counted each time it is reached (what is shared counts as often as it is met; a slice's spare places count too). A statement '..UptoSaid' is the law's where the arguments, and the package variables that the reading takes, are together of bulk at most 1048576: NARROWER than '..Said'. Prove '..Said' where nothing that the law and all that it calls make is longer than what came in: it says more and counts as full. Else prove '..UptoSaid'. A law counts once. -/
mutual
def uptoBulk {H : Type} : DataW H → Nat
  | .lit (.string bytes) => bytes.length + 1
  | .lit _ => 1
  | .nil => 1
  | .ptr d => uptoBulk d + 1
  | .slice elems spare => uptoBulkAll elems + uptoBulkAll spare + 1
  | .agg parts => uptoBulkAll parts + 1
  | .iface _ d => uptoBulk d + 1
  | .map entries => uptoBulkEntries entries + 1
  | .held _ => 1
def uptoBulkAll {H : Type} : List (DataW H) → Nat
  | [] => 0
  | d :: r => uptoBulk d + uptoBulkAll r
def uptoBulkEntries {H : Type} : List (Lit × DataW H) → Nat
  | [] => 0
  | x :: r => uptoBulkEntry x + uptoBulkEntries r
def uptoBulkEntry {H : Type} : Lit × DataW H → Nat
  | (.string bytes, d) => bytes.length + uptoBulk d + 1
  | (_, d) => uptoBulk d + 1
 end
def uptoSmall : (H : Type) → List (DataW H) → Bool := fun _ ds => decide (uptoBulkAll ds ≤ 1048576)
def OpenSpec.upto (s : _root_.Go.ChangeSpec) : _root_.Go.OpenSpec := { _root_.Go.OpenSpec.ofChange s with cond := some uptoSmall }

/-- 'cabstandlaw05.PlaneDists', WHERE WHAT IT READS IS OF BULK AT MOST 1048576: true; the input reads as it did. -/
def planeDistsUptoRow : OpenClaim := { program := "ytilimgjmiijkiaa", sum := "8b192033077018687a8c88a6b1bdb2d90a8a6080f85afbc2d17d78daa7000718", func := "cabstand/cabstandlaw05.PlaneDists", spec := "planeDists", inPlace := ["math.archTrunc", "math.Float64bits", "math.Float64frombits"], unfollowed := true, recurses := true, apart := false, narrowed := true }
def PlaneDistsUptoSaid : Prop := planeDistsUptoRow.holds Try.pinned (OpenSpec.upto planeDistsSpec)

/-- 'cabstandlaw05.PlaneSteps', WHERE WHAT IT READS IS OF BULK AT MOST 1048576: true; the input reads as it did. -/
def planeStepsUptoRow : OpenClaim := { program := "ytilimgjmiijkiaa", sum := "8b192033077018687a8c88a6b1bdb2d90a8a6080f85afbc2d17d78daa7000718", func := "cabstand/cabstandlaw05.PlaneSteps", spec := "planeSteps", inPlace := ["math.archTrunc", "math.Float64bits", "math.Float64frombits"], unfollowed := true, recurses := true, apart := false, narrowed := true }
def PlaneStepsUptoSaid : Prop := planeStepsUptoRow.holds Try.pinned (OpenSpec.upto planeStepsSpec)

/-- 'cabstandlaw05.PlaneJoins', WHERE WHAT IT READS IS OF BULK AT MOST 1048576: true; the input reads as it did. -/
def planeJoinsUptoRow : OpenClaim := { program := "ytilimgjmiijkiaa", sum := "8b192033077018687a8c88a6b1bdb2d90a8a6080f85afbc2d17d78daa7000718", func := "cabstand/cabstandlaw05.PlaneJoins", spec := "planeJoins", inPlace := ["math.archTrunc", "math.Float64bits", "math.Float64frombits"], unfollowed := true, recurses := true, apart := false, narrowed := true }
def PlaneJoinsUptoSaid : Prop := planeJoinsUptoRow.holds Try.pinned (OpenSpec.upto planeJoinsSpec)

/-- 'cabstandlaw05.PlaneTos', WHERE WHAT IT READS IS OF BULK AT MOST 1048576: true; the input reads as it did. -/
def planeTosUptoRow : OpenClaim := { program := "ytilimgjmiijkiaa", sum := "8b192033077018687a8c88a6b1bdb2d90a8a6080f85afbc2d17d78daa7000718", func := "cabstand/cabstandlaw05.PlaneTos", spec := "planeTos", inPlace := ["math.Float64bits", "math.archTrunc", "math.Float64frombits"], unfollowed := true, recurses := true, apart := false, narrowed := true }
def PlaneTosUptoSaid : Prop := planeTosUptoRow.holds Try.pinned (OpenSpec.upto planeTosSpec)

/-- 'cabstandlaw05.PlaneFroms', WHERE WHAT IT READS IS OF BULK AT MOST 1048576: true; the input reads as it did. -/
def planeFromsUptoRow : OpenClaim := { program := "ytilimgjmiijkiaa", sum := "8b192033077018687a8c88a6b1bdb2d90a8a6080f85afbc2d17d78daa7000718", func := "cabstand/cabstandlaw05.PlaneFroms", spec := "planeFroms", inPlace := ["math.Float64frombits", "math.archTrunc", "math.Float64bits"], unfollowed := true, recurses := true, apart := false, narrowed := true }
def PlaneFromsUptoSaid : Prop := planeFromsUptoRow.holds Try.pinned (OpenSpec.upto planeFromsSpec)

/-- 'cabstandlaw05.PlaneTurns', WHERE WHAT IT READS IS OF BULK AT MOST 1048576: true; the input reads as it did. -/
def planeTurnsUptoRow : OpenClaim := { program := "ytilimgjmiijkiaa", sum := "8b192033077018687a8c88a6b1bdb2d90a8a6080f85afbc2d17d78daa7000718", func := "cabstand/cabstandlaw05.PlaneTurns", spec := "planeTurns", inPlace := ["math.archTrunc", "math.Float64bits", "math.Float64frombits"], unfollowed := true, recurses := true, apart := false, narrowed := true }
def PlaneTurnsUptoSaid : Prop := planeTurnsUptoRow.holds Try.pinned (OpenSpec.upto planeTurnsSpec)

/-- 'cabstandlaw05.PlaneMiddles', WHERE WHAT IT READS IS OF BULK AT MOST 1048576: true; the input reads as it did. -/
def planeMiddlesUptoRow : OpenClaim := { program := "ytilimgjmiijkiaa", sum := "8b192033077018687a8c88a6b1bdb2d90a8a6080f85afbc2d17d78daa7000718", func := "cabstand/cabstandlaw05.PlaneMiddles", spec := "planeMiddles", inPlace := ["math.Float64bits", "math.archTrunc", "math.Float64frombits"], unfollowed := true, recurses := true, apart := false, narrowed := true }
def PlaneMiddlesUptoSaid : Prop := planeMiddlesUptoRow.holds Try.pinned (OpenSpec.upto planeMiddlesSpec)

/-- 'cabstandlaw05.PlaneSectors', WHERE WHAT IT READS IS OF BULK AT MOST 1048576: true; the input reads as it did. -/
def planeSectorsUptoRow : OpenClaim := { program := "ytilimgjmiijkiaa", sum := "8b192033077018687a8c88a6b1bdb2d90a8a6080f85afbc2d17d78daa7000718", func := "cabstand/cabstandlaw05.PlaneSectors", spec := "planeSectors", inPlace := ["math.Float64frombits", "math.Float64bits", "math.archTrunc"], unfollowed := true, recurses := true, apart := false, narrowed := true }
def PlaneSectorsUptoSaid : Prop := planeSectorsUptoRow.holds Try.pinned (OpenSpec.upto planeSectorsSpec)

/-- 'cabstandlaw05.PlaneMetric', WHERE WHAT IT READS IS OF BULK AT MOST 1048576: true; the input reads as it did. -/
def planeMetricUptoRow : OpenClaim := { program := "ytilimgjmiijkiaa", sum := "8b192033077018687a8c88a6b1bdb2d90a8a6080f85afbc2d17d78daa7000718", func := "cabstand/cabstandlaw05.PlaneMetric", spec := "planeMetric", inPlace := ["math.archTrunc", "math.Float64bits", "math.Float64frombits"], unfollowed := true, recurses := true, apart := false, narrowed := true }
def PlaneMetricUptoSaid : Prop := planeMetricUptoRow.holds Try.pinned (OpenSpec.upto planeMetricSpec)

/-- 'cabstandlaw05.PlaneWay', WHERE WHAT IT READS IS OF BULK AT MOST 1048576: true; the input reads as it did. -/
def planeWayUptoRow : OpenClaim := { program := "ytilimgjmiijkiaa", sum := "8b192033077018687a8c88a6b1bdb2d90a8a6080f85afbc2d17d78daa7000718", func := "cabstand/cabstandlaw05.PlaneWay", spec := "planeWay", inPlace := ["math.archTrunc", "math.Float64bits", "math.Float64frombits"], unfollowed := true, recurses := true, apart := false, narrowed := true }
def PlaneWayUptoSaid : Prop := planeWayUptoRow.holds Try.pinned (OpenSpec.upto planeWaySpec)

/-- 'cabstandlaw05.PlaneBack', WHERE WHAT IT READS IS OF BULK AT MOST 1048576: true; the input reads as it did. -/
def planeBackUptoRow : OpenClaim := { program := "ytilimgjmiijkiaa", sum := "8b192033077018687a8c88a6b1bdb2d90a8a6080f85afbc2d17d78daa7000718", func := "cabstand/cabstandlaw05.PlaneBack", spec := "planeBack", inPlace := ["math.archTrunc", "math.Float64bits", "math.Float64frombits"], unfollowed := true, recurses := true, apart := false, narrowed := true }
def PlaneBackUptoSaid : Prop := planeBackUptoRow.holds Try.pinned (OpenSpec.upto planeBackSpec)

/-- 'cabstandlaw05.PlaneQuarters', WHERE WHAT IT READS IS OF BULK AT MOST 1048576: true; the input reads as it did. -/
def planeQuartersUptoRow : OpenClaim := { program := "ytilimgjmiijkiaa", sum := "8b192033077018687a8c88a6b1bdb2d90a8a6080f85afbc2d17d78daa7000718", func := "cabstand/cabstandlaw05.PlaneQuarters", spec := "planeQuarters", inPlace := ["math.archTrunc", "math.Float64bits", "math.Float64frombits"], unfollowed := true, recurses := true, apart := false, narrowed := true }
def PlaneQuartersUptoSaid : Prop := planeQuartersUptoRow.holds Try.pinned (OpenSpec.upto planeQuartersSpec)

/-- 'cabstandlaw05.PlaneWinds', WHERE WHAT IT READS IS OF BULK AT MOST 1048576: true; the input reads as it did. -/
def planeWindsUptoRow : OpenClaim := { program := "ytilimgjmiijkiaa", sum := "8b192033077018687a8c88a6b1bdb2d90a8a6080f85afbc2d17d78daa7000718", func := "cabstand/cabstandlaw05.PlaneWinds", spec := "planeWinds", inPlace := ["math.Float64frombits", "math.Float64bits", "math.archTrunc"], unfollowed := true, recurses := true, apart := false, narrowed := true }
def PlaneWindsUptoSaid : Prop := planeWindsUptoRow.holds Try.pinned (OpenSpec.upto planeWindsSpec)

/-- 'cabstandlaw05.PlaneArounds', WHERE WHAT IT READS IS OF BULK AT MOST 1048576: true; the input reads as it did. -/
def planeAroundsUptoRow : OpenClaim := { program := "ytilimgjmiijkiaa", sum := "8b192033077018687a8c88a6b1bdb2d90a8a6080f85afbc2d17d78daa7000718", func := "cabstand/cabstandlaw05.PlaneArounds", spec := "planeArounds", inPlace := ["math.archTrunc", "math.Float64bits", "math.Float64frombits"], unfollowed := true, recurses := true, apart := false, narrowed := true }
def PlaneAroundsUptoSaid : Prop := planeAroundsUptoRow.holds Try.pinned (OpenSpec.upto planeAroundsSpec)

/-- 'cabstandlaw05.PlaneBoxes', WHERE WHAT IT READS IS OF BULK AT MOST 1048576: true; the input reads as it did. -/
def planeBoxesUptoRow : OpenClaim := { program := "ytilimgjmiijkiaa", sum := "8b192033077018687a8c88a6b1bdb2d90a8a6080f85afbc2d17d78daa7000718", func := "cabstand/cabstandlaw05.PlaneBoxes", spec := "planeBoxes", inPlace := ["math.archTrunc", "math.Float64bits", "math.Float64frombits"], unfollowed := true, recurses := true, apart := false, narrowed := true }
def PlaneBoxesUptoSaid : Prop := planeBoxesUptoRow.holds Try.pinned (OpenSpec.upto planeBoxesSpec)

/-- 'cabstandlaw05.PlaneLeast', WHERE WHAT IT READS IS OF BULK AT MOST 1048576: true; the input reads as it did. -/
def planeLeastUptoRow : OpenClaim := { program := "ytilimgjmiijkiaa", sum := "8b192033077018687a8c88a6b1bdb2d90a8a6080f85afbc2d17d78daa7000718", func := "cabstand/cabstandlaw05.PlaneLeast", spec := "planeLeast", inPlace := ["math.archTrunc", "math.Float64bits", "math.Float64frombits"], unfollowed := true, recurses := true, apart := false, narrowed := true }
def PlaneLeastUptoSaid : Prop := planeLeastUptoRow.holds Try.pinned (OpenSpec.upto planeLeastSpec)

/-- 'cabstandlaw05.PlaneHolds', WHERE WHAT IT READS IS OF BULK AT MOST 1048576: true; the input reads as it did. -/
def planeHoldsUptoRow : OpenClaim := { program := "ytilimgjmiijkiaa", sum := "8b192033077018687a8c88a6b1bdb2d90a8a6080f85afbc2d17d78daa7000718", func := "cabstand/cabstandlaw05.PlaneHolds", spec := "planeHolds", inPlace := ["math.archTrunc", "math.Float64bits", "math.Float64frombits"], unfollowed := true, recurses := true, apart := false, narrowed := true }
def PlaneHoldsUptoSaid : Prop := planeHoldsUptoRow.holds Try.pinned (OpenSpec.upto planeHoldsSpec)

/-- 'cabstandlaw05.PlaneNames', WHERE WHAT IT READS IS OF BULK AT MOST 1048576: true; the input reads as it did. -/
def planeNamesUptoRow : OpenClaim := { program := "ytilimgjmiijkiaa", sum := "8b192033077018687a8c88a6b1bdb2d90a8a6080f85afbc2d17d78daa7000718", func := "cabstand/cabstandlaw05.PlaneNames", spec := "planeNames", inPlace := ["math.archTrunc", "math.Float64bits", "math.Float64frombits"], unfollowed := true, recurses := true, apart := false, narrowed := true }
def PlaneNamesUptoSaid : Prop := planeNamesUptoRow.holds Try.pinned (OpenSpec.upto planeNamesSpec)

end Rows
end Go.Proofs.Ytilimgjmiijkiaa
