/-
  No cell of these rows narrows 'for every input' (looked for: loops, veiled, ifaces, maps, wideKeys, modest, calm, conditions, laid).
  DERIVED. THE GIVEN ROWS OF THIS SEAT. 12 by the template 'for every input the law returns true; each argument reads behind the call as it read before'; 0 by the template 'total and deterministic' (their statements: YtdlcebiglolfjaaTotals.lean).
  GIVEN WITH THE SEED: the statements are not yours to turn. If you find one false, say at which input.
  Laid BY PROGRAM, IN A SANDBOX (cutbox-rows.mjs): the forced cells as the released guide's own fill.sh prints them over the translation e7ffec6a9106bc77… (all of the seat's roots in one cut). By AI agents, Wed Nov 11 2026. No macro, syntax, notation, axiom, sorry.
-/
import Derived.Test.YtdlcebiglolfjaaChecked
import GoSem.Claim
import GoSem.ClaimJoined
import GoSem.ClaimMapViews
import Derived.JoinedTies
import Derived.KernelRfl
namespace Go.Proofs.Ytdlcebiglolfjaa
/- THE CELL 'sum', in the pinned program and in every row, IS THE sha256 OF THE DUMP (.gsa) THAT YtdlcebiglolfjaaProg.lean LOADS. Nothing in Lean hashes anything: it is a label: what it is worth is what the hold of that sum in a sandbox is worth. -/
noncomputable def Try.pinned : Pinned := { name := "ytdlcebiglolfjaa", sum := "e7ffec6a9106bc779f336aa4e72f05f2de144a02916b1f4fba8eecfa6eed2f6b", checked := Try.checked }
namespace Rows
def none {H : Type} : Left H := { results := [], args := [] }

/-- 'laws.FnExactStretchProgram': WHATEVER THE INPUT: true; the input reads as it did. -/
def fnExactStretchProgramSpec : ChangeSpec := { name := "fnExactStretchProgram", fn := fun _ => fun
  | [d1, d2] => { results := [.lit (.bool true)], args := [d1, d2] }
  | _ => none }
def fnExactStretchProgramRow : OpenClaim := { program := "ytdlcebiglolfjaa", sum := "e7ffec6a9106bc779f336aa4e72f05f2de144a02916b1f4fba8eecfa6eed2f6b", func := "loop.example/g01247/laws.FnExactStretchProgram", spec := "fnExactStretchProgram", inPlace := ["math.Float64bits", "math.Float64frombits"], unfollowed := true, recurses := true, apart := false }
def FnExactStretchProgramSaid : Prop := fnExactStretchProgramRow.holds Try.pinned (OpenSpec.ofChange fnExactStretchProgramSpec)

/-- ITS FALSE NEIGHBOUR: 'it returns false'. Refute it at one input. -/
def fnExactStretchProgramWrong : ChangeSpec := { name := "fnExactStretchProgram", fn := fun _ => fun
  | [d1, d2] => { results := [.lit (.bool false)], args := [d1, d2] }
  | _ => none }
def FnExactStretchProgramWrongFalsely : Prop := fnExactStretchProgramRow.holds Try.pinned (OpenSpec.ofChange fnExactStretchProgramWrong)

/-- 'laws.FnExactJoinPrograms': WHATEVER THE INPUT: true; the input reads as it did. -/
def fnExactJoinProgramsSpec : ChangeSpec := { name := "fnExactJoinPrograms", fn := fun _ => fun
  | [d1, d2] => { results := [.lit (.bool true)], args := [d1, d2] }
  | _ => none }
def fnExactJoinProgramsRow : OpenClaim := { program := "ytdlcebiglolfjaa", sum := "e7ffec6a9106bc779f336aa4e72f05f2de144a02916b1f4fba8eecfa6eed2f6b", func := "loop.example/g01247/laws.FnExactJoinPrograms", spec := "fnExactJoinPrograms", inPlace := ["math.Float64bits", "math.Float64frombits"], unfollowed := true, recurses := true, apart := false }
def FnExactJoinProgramsSaid : Prop := fnExactJoinProgramsRow.holds Try.pinned (OpenSpec.ofChange fnExactJoinProgramsSpec)

/-- ITS FALSE NEIGHBOUR: 'it returns false'. Refute it at one input. -/
def fnExactJoinProgramsWrong : ChangeSpec := { name := "fnExactJoinPrograms", fn := fun _ => fun
  | [d1, d2] => { results := [.lit (.bool false)], args := [d1, d2] }
  | _ => none }
def FnExactJoinProgramsWrongFalsely : Prop := fnExactJoinProgramsRow.holds Try.pinned (OpenSpec.ofChange fnExactJoinProgramsWrong)

/-- 'laws.FnExactSamplesOf': WHATEVER THE INPUT: true; the input reads as it did. -/
def fnExactSamplesOfSpec : ChangeSpec := { name := "fnExactSamplesOf", fn := fun _ => fun
  | [d1, d2] => { results := [.lit (.bool true)], args := [d1, d2] }
  | _ => none }
def fnExactSamplesOfRow : OpenClaim := { program := "ytdlcebiglolfjaa", sum := "e7ffec6a9106bc779f336aa4e72f05f2de144a02916b1f4fba8eecfa6eed2f6b", func := "loop.example/g01247/laws.FnExactSamplesOf", spec := "fnExactSamplesOf", inPlace := ["math.Float64bits", "math.Float64frombits"], unfollowed := true, recurses := true, apart := false }
def FnExactSamplesOfSaid : Prop := fnExactSamplesOfRow.holds Try.pinned (OpenSpec.ofChange fnExactSamplesOfSpec)

/-- ITS FALSE NEIGHBOUR: 'it returns false'. Refute it at one input. -/
def fnExactSamplesOfWrong : ChangeSpec := { name := "fnExactSamplesOf", fn := fun _ => fun
  | [d1, d2] => { results := [.lit (.bool false)], args := [d1, d2] }
  | _ => none }
def FnExactSamplesOfWrongFalsely : Prop := fnExactSamplesOfRow.holds Try.pinned (OpenSpec.ofChange fnExactSamplesOfWrong)

/-- 'laws.FnExactStartCurve': WHATEVER THE INPUT: true; the input reads as it did. -/
def fnExactStartCurveSpec : ChangeSpec := { name := "fnExactStartCurve", fn := fun _ => fun
  | [d1, d2, d3] => { results := [.lit (.bool true)], args := [d1, d2, d3] }
  | _ => none }
def fnExactStartCurveRow : OpenClaim := { program := "ytdlcebiglolfjaa", sum := "e7ffec6a9106bc779f336aa4e72f05f2de144a02916b1f4fba8eecfa6eed2f6b", func := "loop.example/g01247/laws.FnExactStartCurve", spec := "fnExactStartCurve", inPlace := ["math.Float64frombits", "math.Float64bits"], unfollowed := true, recurses := true, apart := false }
def FnExactStartCurveSaid : Prop := fnExactStartCurveRow.holds Try.pinned (OpenSpec.ofChange fnExactStartCurveSpec)

/-- ITS FALSE NEIGHBOUR: 'it returns false'. Refute it at one input. -/
def fnExactStartCurveWrong : ChangeSpec := { name := "fnExactStartCurve", fn := fun _ => fun
  | [d1, d2, d3] => { results := [.lit (.bool false)], args := [d1, d2, d3] }
  | _ => none }
def FnExactStartCurveWrongFalsely : Prop := fnExactStartCurveRow.holds Try.pinned (OpenSpec.ofChange fnExactStartCurveWrong)

/-- 'laws.FnExactNoseOf': WHATEVER THE INPUT: true; the input reads as it did. -/
def fnExactNoseOfSpec : ChangeSpec := { name := "fnExactNoseOf", fn := fun _ => fun
  | [d1, d2, d3] => { results := [.lit (.bool true)], args := [d1, d2, d3] }
  | _ => none }
def fnExactNoseOfRow : OpenClaim := { program := "ytdlcebiglolfjaa", sum := "e7ffec6a9106bc779f336aa4e72f05f2de144a02916b1f4fba8eecfa6eed2f6b", func := "loop.example/g01247/laws.FnExactNoseOf", spec := "fnExactNoseOf", inPlace := ["math.Float64frombits", "math.Float64bits"], unfollowed := true, recurses := true, apart := false }
def FnExactNoseOfSaid : Prop := fnExactNoseOfRow.holds Try.pinned (OpenSpec.ofChange fnExactNoseOfSpec)

/-- ITS FALSE NEIGHBOUR: 'it returns false'. Refute it at one input. -/
def fnExactNoseOfWrong : ChangeSpec := { name := "fnExactNoseOf", fn := fun _ => fun
  | [d1, d2, d3] => { results := [.lit (.bool false)], args := [d1, d2, d3] }
  | _ => none }
def FnExactNoseOfWrongFalsely : Prop := fnExactNoseOfRow.holds Try.pinned (OpenSpec.ofChange fnExactNoseOfWrong)

/-- 'laws.FnExactWarmBack': WHATEVER THE INPUT: true; the input reads as it did. -/
def fnExactWarmBackSpec : ChangeSpec := { name := "fnExactWarmBack", fn := fun _ => fun
  | [d1, d2, d3, d4, d5, d6, d7] => { results := [.lit (.bool true)], args := [d1, d2, d3, d4, d5, d6, d7] }
  | _ => none }
def fnExactWarmBackRow : OpenClaim := { program := "ytdlcebiglolfjaa", sum := "e7ffec6a9106bc779f336aa4e72f05f2de144a02916b1f4fba8eecfa6eed2f6b", func := "loop.example/g01247/laws.FnExactWarmBack", spec := "fnExactWarmBack", inPlace := ["math.Float64frombits", "math.Float64bits"], unfollowed := true, recurses := true, apart := false }
def FnExactWarmBackSaid : Prop := fnExactWarmBackRow.holds Try.pinned (OpenSpec.ofChange fnExactWarmBackSpec)

/-- ITS FALSE NEIGHBOUR: 'it returns false'. Refute it at one input. -/
def fnExactWarmBackWrong : ChangeSpec := { name := "fnExactWarmBack", fn := fun _ => fun
  | [d1, d2, d3, d4, d5, d6, d7] => { results := [.lit (.bool false)], args := [d1, d2, d3, d4, d5, d6, d7] }
  | _ => none }
def FnExactWarmBackWrongFalsely : Prop := fnExactWarmBackRow.holds Try.pinned (OpenSpec.ofChange fnExactWarmBackWrong)

/-- 'laws.FnExactSlowestStart': WHATEVER THE INPUT: true; the input reads as it did. -/
def fnExactSlowestStartSpec : ChangeSpec := { name := "fnExactSlowestStart", fn := fun _ => fun
  | [d1, d2, d3, d4, d5] => { results := [.lit (.bool true)], args := [d1, d2, d3, d4, d5] }
  | _ => none }
def fnExactSlowestStartRow : OpenClaim := { program := "ytdlcebiglolfjaa", sum := "e7ffec6a9106bc779f336aa4e72f05f2de144a02916b1f4fba8eecfa6eed2f6b", func := "loop.example/g01247/laws.FnExactSlowestStart", spec := "fnExactSlowestStart", inPlace := ["math.Float64frombits", "math.Float64bits"], unfollowed := true, recurses := true, apart := false }
def FnExactSlowestStartSaid : Prop := fnExactSlowestStartRow.holds Try.pinned (OpenSpec.ofChange fnExactSlowestStartSpec)

/-- ITS FALSE NEIGHBOUR: 'it returns false'. Refute it at one input. -/
def fnExactSlowestStartWrong : ChangeSpec := { name := "fnExactSlowestStart", fn := fun _ => fun
  | [d1, d2, d3, d4, d5] => { results := [.lit (.bool false)], args := [d1, d2, d3, d4, d5] }
  | _ => none }
def FnExactSlowestStartWrongFalsely : Prop := fnExactSlowestStartRow.holds Try.pinned (OpenSpec.ofChange fnExactSlowestStartWrong)

/-- 'laws.FnExactNucleiOf': WHATEVER THE INPUT: true; the input reads as it did. -/
def fnExactNucleiOfSpec : ChangeSpec := { name := "fnExactNucleiOf", fn := fun _ => fun
  | [d1, d2, d3, d4, d5] => { results := [.lit (.bool true)], args := [d1, d2, d3, d4, d5] }
  | _ => none }
def fnExactNucleiOfRow : OpenClaim := { program := "ytdlcebiglolfjaa", sum := "e7ffec6a9106bc779f336aa4e72f05f2de144a02916b1f4fba8eecfa6eed2f6b", func := "loop.example/g01247/laws.FnExactNucleiOf", spec := "fnExactNucleiOf", inPlace := ["math.Float64frombits", "math.Float64bits", "math.archFloor", "math.archTrunc"], unfollowed := true, recurses := true, apart := false }
def FnExactNucleiOfSaid : Prop := fnExactNucleiOfRow.holds Try.pinned (OpenSpec.ofChange fnExactNucleiOfSpec)

/-- ITS FALSE NEIGHBOUR: 'it returns false'. Refute it at one input. -/
def fnExactNucleiOfWrong : ChangeSpec := { name := "fnExactNucleiOf", fn := fun _ => fun
  | [d1, d2, d3, d4, d5] => { results := [.lit (.bool false)], args := [d1, d2, d3, d4, d5] }
  | _ => none }
def FnExactNucleiOfWrongFalsely : Prop := fnExactNucleiOfRow.holds Try.pinned (OpenSpec.ofChange fnExactNucleiOfWrong)

/-- 'laws.FnExactSharesOf': WHATEVER THE INPUT: true; the input reads as it did. -/
def fnExactSharesOfSpec : ChangeSpec := { name := "fnExactSharesOf", fn := fun _ => fun
  | [d1, d2, d3] => { results := [.lit (.bool true)], args := [d1, d2, d3] }
  | _ => none }
def fnExactSharesOfRow : OpenClaim := { program := "ytdlcebiglolfjaa", sum := "e7ffec6a9106bc779f336aa4e72f05f2de144a02916b1f4fba8eecfa6eed2f6b", func := "loop.example/g01247/laws.FnExactSharesOf", spec := "fnExactSharesOf", inPlace := ["math.Float64frombits", "math.Float64bits"], unfollowed := true, recurses := true, apart := false }
def FnExactSharesOfSaid : Prop := fnExactSharesOfRow.holds Try.pinned (OpenSpec.ofChange fnExactSharesOfSpec)

/-- ITS FALSE NEIGHBOUR: 'it returns false'. Refute it at one input. -/
def fnExactSharesOfWrong : ChangeSpec := { name := "fnExactSharesOf", fn := fun _ => fun
  | [d1, d2, d3] => { results := [.lit (.bool false)], args := [d1, d2, d3] }
  | _ => none }
def FnExactSharesOfWrongFalsely : Prop := fnExactSharesOfRow.holds Try.pinned (OpenSpec.ofChange fnExactSharesOfWrong)

/-- 'laws.FnExactMeltSteps': WHATEVER THE INPUT: true; the input reads as it did. -/
def fnExactMeltStepsSpec : ChangeSpec := { name := "fnExactMeltSteps", fn := fun _ => fun
  | [d1, d2, d3] => { results := [.lit (.bool true)], args := [d1, d2, d3] }
  | _ => none }
def fnExactMeltStepsRow : OpenClaim := { program := "ytdlcebiglolfjaa", sum := "e7ffec6a9106bc779f336aa4e72f05f2de144a02916b1f4fba8eecfa6eed2f6b", func := "loop.example/g01247/laws.FnExactMeltSteps", spec := "fnExactMeltSteps", unfollowed := true, recurses := true, apart := false }
def FnExactMeltStepsSaid : Prop := fnExactMeltStepsRow.holds Try.pinned (OpenSpec.ofChange fnExactMeltStepsSpec)

/-- ITS FALSE NEIGHBOUR: 'it returns false'. Refute it at one input. -/
def fnExactMeltStepsWrong : ChangeSpec := { name := "fnExactMeltSteps", fn := fun _ => fun
  | [d1, d2, d3] => { results := [.lit (.bool false)], args := [d1, d2, d3] }
  | _ => none }
def FnExactMeltStepsWrongFalsely : Prop := fnExactMeltStepsRow.holds Try.pinned (OpenSpec.ofChange fnExactMeltStepsWrong)

/-- 'laws.FnExactHopSome': WHATEVER THE INPUT: true; the input reads as it did. -/
def fnExactHopSomeSpec : ChangeSpec := { name := "fnExactHopSome", fn := fun _ => fun
  | [d1, d2, d3, d4] => { results := [.lit (.bool true)], args := [d1, d2, d3, d4] }
  | _ => none }
def fnExactHopSomeRow : OpenClaim := { program := "ytdlcebiglolfjaa", sum := "e7ffec6a9106bc779f336aa4e72f05f2de144a02916b1f4fba8eecfa6eed2f6b", func := "loop.example/g01247/laws.FnExactHopSome", spec := "fnExactHopSome", unfollowed := true, recurses := true, apart := false }
def FnExactHopSomeSaid : Prop := fnExactHopSomeRow.holds Try.pinned (OpenSpec.ofChange fnExactHopSomeSpec)

/-- ITS FALSE NEIGHBOUR: 'it returns false'. Refute it at one input. -/
def fnExactHopSomeWrong : ChangeSpec := { name := "fnExactHopSome", fn := fun _ => fun
  | [d1, d2, d3, d4] => { results := [.lit (.bool false)], args := [d1, d2, d3, d4] }
  | _ => none }
def FnExactHopSomeWrongFalsely : Prop := fnExactHopSomeRow.holds Try.pinned (OpenSpec.ofChange fnExactHopSomeWrong)

/-- 'laws.FnExactHalvesAround': WHATEVER THE INPUT: true; the input reads as it did. -/
def fnExactHalvesAroundSpec : ChangeSpec := { name := "fnExactHalvesAround", fn := fun _ => fun
  | [d1, d2, d3] => { results := [.lit (.bool true)], args := [d1, d2, d3] }
  | _ => none }
def fnExactHalvesAroundRow : OpenClaim := { program := "ytdlcebiglolfjaa", sum := "e7ffec6a9106bc779f336aa4e72f05f2de144a02916b1f4fba8eecfa6eed2f6b", func := "loop.example/g01247/laws.FnExactHalvesAround", spec := "fnExactHalvesAround", inPlace := ["math.Float32frombits", "math.Float64frombits", "math.Float64bits", "math.archTrunc"], apart := false }
def FnExactHalvesAroundSaid : Prop := fnExactHalvesAroundRow.holds Try.pinned (OpenSpec.ofChange fnExactHalvesAroundSpec)

/-- ITS FALSE NEIGHBOUR: 'it returns false'. Refute it at one input. -/
def fnExactHalvesAroundWrong : ChangeSpec := { name := "fnExactHalvesAround", fn := fun _ => fun
  | [d1, d2, d3] => { results := [.lit (.bool false)], args := [d1, d2, d3] }
  | _ => none }
def FnExactHalvesAroundWrongFalsely : Prop := fnExactHalvesAroundRow.holds Try.pinned (OpenSpec.ofChange fnExactHalvesAroundWrong)

/- THE SECOND FORM. 'bulk': how many values and letters a reading holds, each counted each time it is reached (what is shared counts as often as it is met; a slice's spare places count too). A statement '..UptoSaid' is the law's where the arguments, and the package variables that the reading takes, are together of bulk at most 1048576: NARROWER than '..Said'. Prove '..Said' where nothing that the law and all that it calls make is longer than what came in: it says more and counts as full. Else prove '..UptoSaid'. A law counts once. -/
mutual
def uptoBulk {H : Type} : DataW H → Nat
  | .lit (.string bytes) => bytes.length + 1
  | .lit _ => 1
  | .nil => 1
  | .ptr d => uptoBulk d + 1
  | .slice elems spare => uptoBulkAll elems + uptoBulkAll spare + 1
  | .agg parts => uptoBulkAll parts + 1
  | .iface _ d => uptoBulk d + 1
  | .map entries => uptoBulkEntries entries + 1
  | .held _ => 1
def uptoBulkAll {H : Type} : List (DataW H) → Nat
  | [] => 0
  | d :: r => uptoBulk d + uptoBulkAll r
def uptoBulkEntries {H : Type} : List (Lit × DataW H) → Nat
  | [] => 0
  | x :: r => uptoBulkEntry x + uptoBulkEntries r
def uptoBulkEntry {H : Type} : Lit × DataW H → Nat
  | (.string bytes, d) => bytes.length + uptoBulk d + 1
  | (_, d) => uptoBulk d + 1
 end
def uptoSmall : (H : Type) → List (DataW H) → Bool := fun _ ds => decide (uptoBulkAll ds ≤ 1048576)
def OpenSpec.upto (s : _root_.Go.ChangeSpec) : _root_.Go.OpenSpec := { _root_.Go.OpenSpec.ofChange s with cond := some uptoSmall }

/-- 'laws.FnExactStretchProgram', WHERE WHAT IT READS IS OF BULK AT MOST 1048576: true; the input reads as it did. -/
def fnExactStretchProgramUptoRow : OpenClaim := { program := "ytdlcebiglolfjaa", sum := "e7ffec6a9106bc779f336aa4e72f05f2de144a02916b1f4fba8eecfa6eed2f6b", func := "loop.example/g01247/laws.FnExactStretchProgram", spec := "fnExactStretchProgram", inPlace := ["math.Float64bits", "math.Float64frombits"], unfollowed := true, recurses := true, apart := false, narrowed := true }
def FnExactStretchProgramUptoSaid : Prop := fnExactStretchProgramUptoRow.holds Try.pinned (OpenSpec.upto fnExactStretchProgramSpec)

/-- 'laws.FnExactJoinPrograms', WHERE WHAT IT READS IS OF BULK AT MOST 1048576: true; the input reads as it did. -/
def fnExactJoinProgramsUptoRow : OpenClaim := { program := "ytdlcebiglolfjaa", sum := "e7ffec6a9106bc779f336aa4e72f05f2de144a02916b1f4fba8eecfa6eed2f6b", func := "loop.example/g01247/laws.FnExactJoinPrograms", spec := "fnExactJoinPrograms", inPlace := ["math.Float64bits", "math.Float64frombits"], unfollowed := true, recurses := true, apart := false, narrowed := true }
def FnExactJoinProgramsUptoSaid : Prop := fnExactJoinProgramsUptoRow.holds Try.pinned (OpenSpec.upto fnExactJoinProgramsSpec)

/-- 'laws.FnExactSamplesOf', WHERE WHAT IT READS IS OF BULK AT MOST 1048576: true; the input reads as it did. -/
def fnExactSamplesOfUptoRow : OpenClaim := { program := "ytdlcebiglolfjaa", sum := "e7ffec6a9106bc779f336aa4e72f05f2de144a02916b1f4fba8eecfa6eed2f6b", func := "loop.example/g01247/laws.FnExactSamplesOf", spec := "fnExactSamplesOf", inPlace := ["math.Float64bits", "math.Float64frombits"], unfollowed := true, recurses := true, apart := false, narrowed := true }
def FnExactSamplesOfUptoSaid : Prop := fnExactSamplesOfUptoRow.holds Try.pinned (OpenSpec.upto fnExactSamplesOfSpec)

/-- 'laws.FnExactStartCurve', WHERE WHAT IT READS IS OF BULK AT MOST 1048576: true; the input reads as it did. -/
def fnExactStartCurveUptoRow : OpenClaim := { program := "ytdlcebiglolfjaa", sum := "e7ffec6a9106bc779f336aa4e72f05f2de144a02916b1f4fba8eecfa6eed2f6b", func := "loop.example/g01247/laws.FnExactStartCurve", spec := "fnExactStartCurve", inPlace := ["math.Float64frombits", "math.Float64bits"], unfollowed := true, recurses := true, apart := false, narrowed := true }
def FnExactStartCurveUptoSaid : Prop := fnExactStartCurveUptoRow.holds Try.pinned (OpenSpec.upto fnExactStartCurveSpec)

/-- 'laws.FnExactNoseOf', WHERE WHAT IT READS IS OF BULK AT MOST 1048576: true; the input reads as it did. -/
def fnExactNoseOfUptoRow : OpenClaim := { program := "ytdlcebiglolfjaa", sum := "e7ffec6a9106bc779f336aa4e72f05f2de144a02916b1f4fba8eecfa6eed2f6b", func := "loop.example/g01247/laws.FnExactNoseOf", spec := "fnExactNoseOf", inPlace := ["math.Float64frombits", "math.Float64bits"], unfollowed := true, recurses := true, apart := false, narrowed := true }
def FnExactNoseOfUptoSaid : Prop := fnExactNoseOfUptoRow.holds Try.pinned (OpenSpec.upto fnExactNoseOfSpec)

/-- 'laws.FnExactWarmBack', WHERE WHAT IT READS IS OF BULK AT MOST 1048576: true; the input reads as it did. -/
def fnExactWarmBackUptoRow : OpenClaim := { program := "ytdlcebiglolfjaa", sum := "e7ffec6a9106bc779f336aa4e72f05f2de144a02916b1f4fba8eecfa6eed2f6b", func := "loop.example/g01247/laws.FnExactWarmBack", spec := "fnExactWarmBack", inPlace := ["math.Float64frombits", "math.Float64bits"], unfollowed := true, recurses := true, apart := false, narrowed := true }
def FnExactWarmBackUptoSaid : Prop := fnExactWarmBackUptoRow.holds Try.pinned (OpenSpec.upto fnExactWarmBackSpec)

/-- 'laws.FnExactSlowestStart', WHERE WHAT IT READS IS OF BULK AT MOST 1048576: true; the input reads as it did. -/
def fnExactSlowestStartUptoRow : OpenClaim := { program := "ytdlcebiglolfjaa", sum := "e7ffec6a9106bc779f336aa4e72f05f2de144a02916b1f4fba8eecfa6eed2f6b", func := "loop.example/g01247/laws.FnExactSlowestStart", spec := "fnExactSlowestStart", inPlace := ["math.Float64frombits", "math.Float64bits"], unfollowed := true, recurses := true, apart := false, narrowed := true }
def FnExactSlowestStartUptoSaid : Prop := fnExactSlowestStartUptoRow.holds Try.pinned (OpenSpec.upto fnExactSlowestStartSpec)

/-- 'laws.FnExactNucleiOf', WHERE WHAT IT READS IS OF BULK AT MOST 1048576: true; the input reads as it did. -/
def fnExactNucleiOfUptoRow : OpenClaim := { program := "ytdlcebiglolfjaa", sum := "e7ffec6a9106bc779f336aa4e72f05f2de144a02916b1f4fba8eecfa6eed2f6b", func := "loop.example/g01247/laws.FnExactNucleiOf", spec := "fnExactNucleiOf", inPlace := ["math.Float64frombits", "math.Float64bits", "math.archFloor", "math.archTrunc"], unfollowed := true, recurses := true, apart := false, narrowed := true }
def FnExactNucleiOfUptoSaid : Prop := fnExactNucleiOfUptoRow.holds Try.pinned (OpenSpec.upto fnExactNucleiOfSpec)

/-- 'laws.FnExactSharesOf', WHERE WHAT IT READS IS OF BULK AT MOST 1048576: true; the input reads as it did. -/
def fnExactSharesOfUptoRow : OpenClaim := { program := "ytdlcebiglolfjaa", sum := "e7ffec6a9106bc779f336aa4e72f05f2de144a02916b1f4fba8eecfa6eed2f6b", func := "loop.example/g01247/laws.FnExactSharesOf", spec := "fnExactSharesOf", inPlace := ["math.Float64frombits", "math.Float64bits"], unfollowed := true, recurses := true, apart := false, narrowed := true }
def FnExactSharesOfUptoSaid : Prop := fnExactSharesOfUptoRow.holds Try.pinned (OpenSpec.upto fnExactSharesOfSpec)

/-- 'laws.FnExactMeltSteps', WHERE WHAT IT READS IS OF BULK AT MOST 1048576: true; the input reads as it did. -/
def fnExactMeltStepsUptoRow : OpenClaim := { program := "ytdlcebiglolfjaa", sum := "e7ffec6a9106bc779f336aa4e72f05f2de144a02916b1f4fba8eecfa6eed2f6b", func := "loop.example/g01247/laws.FnExactMeltSteps", spec := "fnExactMeltSteps", unfollowed := true, recurses := true, apart := false, narrowed := true }
def FnExactMeltStepsUptoSaid : Prop := fnExactMeltStepsUptoRow.holds Try.pinned (OpenSpec.upto fnExactMeltStepsSpec)

/-- 'laws.FnExactHopSome', WHERE WHAT IT READS IS OF BULK AT MOST 1048576: true; the input reads as it did. -/
def fnExactHopSomeUptoRow : OpenClaim := { program := "ytdlcebiglolfjaa", sum := "e7ffec6a9106bc779f336aa4e72f05f2de144a02916b1f4fba8eecfa6eed2f6b", func := "loop.example/g01247/laws.FnExactHopSome", spec := "fnExactHopSome", unfollowed := true, recurses := true, apart := false, narrowed := true }
def FnExactHopSomeUptoSaid : Prop := fnExactHopSomeUptoRow.holds Try.pinned (OpenSpec.upto fnExactHopSomeSpec)

/-- 'laws.FnExactHalvesAround', WHERE WHAT IT READS IS OF BULK AT MOST 1048576: true; the input reads as it did. -/
def fnExactHalvesAroundUptoRow : OpenClaim := { program := "ytdlcebiglolfjaa", sum := "e7ffec6a9106bc779f336aa4e72f05f2de144a02916b1f4fba8eecfa6eed2f6b", func := "loop.example/g01247/laws.FnExactHalvesAround", spec := "fnExactHalvesAround", inPlace := ["math.Float32frombits", "math.Float64frombits", "math.Float64bits", "math.archTrunc"], apart := false, narrowed := true }
def FnExactHalvesAroundUptoSaid : Prop := fnExactHalvesAroundUptoRow.holds Try.pinned (OpenSpec.upto fnExactHalvesAroundSpec)

end Rows
end Go.Proofs.Ytdlcebiglolfjaa
