/-
  No cell of these rows narrows 'for every input' (looked for: loops, veiled, ifaces, maps, wideKeys, modest, calm, conditions, laid).
  DERIVED. THE GIVEN ROWS OF THIS SEAT. 8 by the template 'for every input the law returns true; each argument reads behind the call as it read before'; 0 by the template 'total and deterministic' (their statements: YtjggcekliaalgaaTotals.lean).
  GIVEN WITH THE SEED: the statements are not yours to turn. If you find one false, say at which input.
  Laid BY PROGRAM, IN A SANDBOX (cutbox-rows.mjs): the forced cells as the released guide's own fill.sh prints them over the translation 172b1d2fe218854b… (all of the seat's roots in one cut). By AI agents, Wed Nov 11 2026. No macro, syntax, notation, axiom, sorry.
-/
import Derived.Test.YtjggcekliaalgaaChecked
import GoSem.Claim
import GoSem.ClaimJoined
import GoSem.ClaimMapViews
import Derived.JoinedTies
import Derived.KernelRfl
namespace Go.Proofs.Ytjggcekliaalgaa
/- THE CELL 'sum', in the pinned program and in every row, IS THE sha256 OF THE DUMP (.gsa) THAT YtjggcekliaalgaaProg.lean LOADS. Nothing in Lean hashes anything: it is a label: what it is worth is what the hold of that sum in a sandbox is worth. -/
noncomputable def Try.pinned : Pinned := { name := "ytjggcekliaalgaa", sum := "172b1d2fe218854b70e711fc70c07f9a53a364441bb481fb1b8d6c1e9dc29f71", checked := Try.checked }
namespace Rows
def none {H : Type} : Left H := { results := [], args := [] }

/-- 'laws.FnExactJoinPrograms': WHATEVER THE INPUT: true; the input reads as it did. -/
def fnExactJoinProgramsSpec : ChangeSpec := { name := "fnExactJoinPrograms", fn := fun _ => fun
  | [d1, d2] => { results := [.lit (.bool true)], args := [d1, d2] }
  | _ => none }
def fnExactJoinProgramsRow : OpenClaim := { program := "ytjggcekliaalgaa", sum := "172b1d2fe218854b70e711fc70c07f9a53a364441bb481fb1b8d6c1e9dc29f71", func := "loop.example/g01247/laws.FnExactJoinPrograms", spec := "fnExactJoinPrograms", inPlace := ["math.Float64bits", "math.Float64frombits"], unfollowed := true, recurses := true, apart := false }
def FnExactJoinProgramsSaid : Prop := fnExactJoinProgramsRow.holds Try.pinned (OpenSpec.ofChange fnExactJoinProgramsSpec)

/-- ITS FALSE NEIGHBOUR: 'it returns false'. Refute it at one input. -/
def fnExactJoinProgramsWrong : ChangeSpec := { name := "fnExactJoinPrograms", fn := fun _ => fun
  | [d1, d2] => { results := [.lit (.bool false)], args := [d1, d2] }
  | _ => none }
def FnExactJoinProgramsWrongFalsely : Prop := fnExactJoinProgramsRow.holds Try.pinned (OpenSpec.ofChange fnExactJoinProgramsWrong)

/-- 'laws.FnExactMeltSteps': WHATEVER THE INPUT: true; the input reads as it did. -/
def fnExactMeltStepsSpec : ChangeSpec := { name := "fnExactMeltSteps", fn := fun _ => fun
  | [d1, d2, d3] => { results := [.lit (.bool true)], args := [d1, d2, d3] }
  | _ => none }
def fnExactMeltStepsRow : OpenClaim := { program := "ytjggcekliaalgaa", sum := "172b1d2fe218854b70e711fc70c07f9a53a364441bb481fb1b8d6c1e9dc29f71", func := "loop.example/g01247/laws.FnExactMeltSteps", spec := "fnExactMeltSteps", unfollowed := true, recurses := true, apart := false }
def FnExactMeltStepsSaid : Prop := fnExactMeltStepsRow.holds Try.pinned (OpenSpec.ofChange fnExactMeltStepsSpec)

/-- ITS FALSE NEIGHBOUR: 'it returns false'. Refute it at one input. -/
def fnExactMeltStepsWrong : ChangeSpec := { name := "fnExactMeltSteps", fn := fun _ => fun
  | [d1, d2, d3] => { results := [.lit (.bool false)], args := [d1, d2, d3] }
  | _ => none }
def FnExactMeltStepsWrongFalsely : Prop := fnExactMeltStepsRow.holds Try.pinned (OpenSpec.ofChange fnExactMeltStepsWrong)

/-- 'laws.FnExactHopSome': WHATEVER THE INPUT: true; the input reads as it did. -/
def fnExactHopSomeSpec : ChangeSpec := { name := "fnExactHopSome", fn := fun _ => fun
  | [d1, d2, d3, d4] => { results := [.lit (.bool true)], args := [d1, d2, d3, d4] }
  | _ => none }
def fnExactHopSomeRow : OpenClaim := { program := "ytjggcekliaalgaa", sum := "172b1d2fe218854b70e711fc70c07f9a53a364441bb481fb1b8d6c1e9dc29f71", func := "loop.example/g01247/laws.FnExactHopSome", spec := "fnExactHopSome", unfollowed := true, recurses := true, apart := false }
def FnExactHopSomeSaid : Prop := fnExactHopSomeRow.holds Try.pinned (OpenSpec.ofChange fnExactHopSomeSpec)

/-- ITS FALSE NEIGHBOUR: 'it returns false'. Refute it at one input. -/
def fnExactHopSomeWrong : ChangeSpec := { name := "fnExactHopSome", fn := fun _ => fun
  | [d1, d2, d3, d4] => { results := [.lit (.bool false)], args := [d1, d2, d3, d4] }
  | _ => none }
def FnExactHopSomeWrongFalsely : Prop := fnExactHopSomeRow.holds Try.pinned (OpenSpec.ofChange fnExactHopSomeWrong)

/-- 'laws.FnExactNucleiOf': WHATEVER THE INPUT: true; the input reads as it did. -/
def fnExactNucleiOfSpec : ChangeSpec := { name := "fnExactNucleiOf", fn := fun _ => fun
  | [d1, d2, d3, d4, d5] => { results := [.lit (.bool true)], args := [d1, d2, d3, d4, d5] }
  | _ => none }
def fnExactNucleiOfRow : OpenClaim := { program := "ytjggcekliaalgaa", sum := "172b1d2fe218854b70e711fc70c07f9a53a364441bb481fb1b8d6c1e9dc29f71", func := "loop.example/g01247/laws.FnExactNucleiOf", spec := "fnExactNucleiOf", inPlace := ["math.Float64frombits", "math.Float64bits", "math.archFloor", "math.archTrunc"], unfollowed := true, recurses := true, apart := false }
def FnExactNucleiOfSaid : Prop := fnExactNucleiOfRow.holds Try.pinned (OpenSpec.ofChange fnExactNucleiOfSpec)

/-- ITS FALSE NEIGHBOUR: 'it returns false'. Refute it at one input. -/
def fnExactNucleiOfWrong : ChangeSpec := { name := "fnExactNucleiOf", fn := fun _ => fun
  | [d1, d2, d3, d4, d5] => { results := [.lit (.bool false)], args := [d1, d2, d3, d4, d5] }
  | _ => none }
def FnExactNucleiOfWrongFalsely : Prop := fnExactNucleiOfRow.holds Try.pinned (OpenSpec.ofChange fnExactNucleiOfWrong)

/-- 'laws.FnExactHalvesAround': WHATEVER THE INPUT: true; the input reads as it did. -/
def fnExactHalvesAroundSpec : ChangeSpec := { name := "fnExactHalvesAround", fn := fun _ => fun
  | [d1, d2, d3] => { results := [.lit (.bool true)], args := [d1, d2, d3] }
  | _ => none }
def fnExactHalvesAroundRow : OpenClaim := { program := "ytjggcekliaalgaa", sum := "172b1d2fe218854b70e711fc70c07f9a53a364441bb481fb1b8d6c1e9dc29f71", func := "loop.example/g01247/laws.FnExactHalvesAround", spec := "fnExactHalvesAround", inPlace := ["math.Float32frombits", "math.Float64frombits", "math.Float64bits", "math.archTrunc"], apart := false }
def FnExactHalvesAroundSaid : Prop := fnExactHalvesAroundRow.holds Try.pinned (OpenSpec.ofChange fnExactHalvesAroundSpec)

/-- ITS FALSE NEIGHBOUR: 'it returns false'. Refute it at one input. -/
def fnExactHalvesAroundWrong : ChangeSpec := { name := "fnExactHalvesAround", fn := fun _ => fun
  | [d1, d2, d3] => { results := [.lit (.bool false)], args := [d1, d2, d3] }
  | _ => none }
def FnExactHalvesAroundWrongFalsely : Prop := fnExactHalvesAroundRow.holds Try.pinned (OpenSpec.ofChange fnExactHalvesAroundWrong)

/-- 'laws.FnExactStepFlake': WHATEVER THE INPUT: true; the input reads as it did. -/
def fnExactStepFlakeSpec : ChangeSpec := { name := "fnExactStepFlake", fn := fun _ => fun
  | [d1, d2, d3] => { results := [.lit (.bool true)], args := [d1, d2, d3] }
  | _ => none }
def fnExactStepFlakeRow : OpenClaim := { program := "ytjggcekliaalgaa", sum := "172b1d2fe218854b70e711fc70c07f9a53a364441bb481fb1b8d6c1e9dc29f71", func := "loop.example/g01247/laws.FnExactStepFlake", spec := "fnExactStepFlake", inPlace := ["math.Float64bits", "math.Float64frombits"], unfollowed := true, recurses := true, apart := false }
def FnExactStepFlakeSaid : Prop := fnExactStepFlakeRow.holds Try.pinned (OpenSpec.ofChange fnExactStepFlakeSpec)

/-- ITS FALSE NEIGHBOUR: 'it returns false'. Refute it at one input. -/
def fnExactStepFlakeWrong : ChangeSpec := { name := "fnExactStepFlake", fn := fun _ => fun
  | [d1, d2, d3] => { results := [.lit (.bool false)], args := [d1, d2, d3] }
  | _ => none }
def FnExactStepFlakeWrongFalsely : Prop := fnExactStepFlakeRow.holds Try.pinned (OpenSpec.ofChange fnExactStepFlakeWrong)

/-- 'laws.FnExactRunFlake': WHATEVER THE INPUT: true; the input reads as it did. -/
def fnExactRunFlakeSpec : ChangeSpec := { name := "fnExactRunFlake", fn := fun _ => fun
  | [d1, d2, d3, d4] => { results := [.lit (.bool true)], args := [d1, d2, d3, d4] }
  | _ => none }
def fnExactRunFlakeRow : OpenClaim := { program := "ytjggcekliaalgaa", sum := "172b1d2fe218854b70e711fc70c07f9a53a364441bb481fb1b8d6c1e9dc29f71", func := "loop.example/g01247/laws.FnExactRunFlake", spec := "fnExactRunFlake", inPlace := ["math.Float64bits", "math.Float64frombits"], unfollowed := true, recurses := true, apart := false }
def FnExactRunFlakeSaid : Prop := fnExactRunFlakeRow.holds Try.pinned (OpenSpec.ofChange fnExactRunFlakeSpec)

/-- ITS FALSE NEIGHBOUR: 'it returns false'. Refute it at one input. -/
def fnExactRunFlakeWrong : ChangeSpec := { name := "fnExactRunFlake", fn := fun _ => fun
  | [d1, d2, d3, d4] => { results := [.lit (.bool false)], args := [d1, d2, d3, d4] }
  | _ => none }
def FnExactRunFlakeWrongFalsely : Prop := fnExactRunFlakeRow.holds Try.pinned (OpenSpec.ofChange fnExactRunFlakeWrong)

/-- 'laws.FnLayers': WHATEVER THE INPUT: true; the input reads as it did. -/
def fnLayersSpec : ChangeSpec := { name := "fnLayers", fn := fun _ => fun
  | [d1, d2] => { results := [.lit (.bool true)], args := [d1, d2] }
  | _ => none }
def fnLayersRow : OpenClaim := { program := "ytjggcekliaalgaa", sum := "172b1d2fe218854b70e711fc70c07f9a53a364441bb481fb1b8d6c1e9dc29f71", func := "loop.example/g01247/laws.FnLayers", spec := "fnLayers", unfollowed := true, recurses := true, apart := false }
def FnLayersSaid : Prop := fnLayersRow.holds Try.pinned (OpenSpec.ofChange fnLayersSpec)

/-- ITS FALSE NEIGHBOUR: 'it returns false'. Refute it at one input. -/
def fnLayersWrong : ChangeSpec := { name := "fnLayers", fn := fun _ => fun
  | [d1, d2] => { results := [.lit (.bool false)], args := [d1, d2] }
  | _ => none }
def FnLayersWrongFalsely : Prop := fnLayersRow.holds Try.pinned (OpenSpec.ofChange fnLayersWrong)

/- THE SECOND FORM. 'bulk': how many values and letters a reading holds, each counted each time it is reached (what is shared counts as often as it is met; a slice's spare places count too). A statement '..UptoSaid' is the law's where the arguments, and the package variables that the reading takes, are together of bulk at most 1048576: NARROWER than '..Said'. Prove '..Said' where nothing that the law and all that it calls make is longer than what came in: it says more and counts as full. Else prove '..UptoSaid'. A law counts once. -/
mutual
def uptoBulk {H : Type} : DataW H → Nat
  | .lit (.string bytes) => bytes.length + 1
  | .lit _ => 1
  | .nil => 1
  | .ptr d => uptoBulk d + 1
  | .slice elems spare => uptoBulkAll elems + uptoBulkAll spare + 1
  | .agg parts => uptoBulkAll parts + 1
  | .iface _ d => uptoBulk d + 1
  | .map entries => uptoBulkEntries entries + 1
  | .held _ => 1
def uptoBulkAll {H : Type} : List (DataW H) → Nat
  | [] => 0
  | d :: r => uptoBulk d + uptoBulkAll r
def uptoBulkEntries {H : Type} : List (Lit × DataW H) → Nat
  | [] => 0
  | x :: r => uptoBulkEntry x + uptoBulkEntries r
def uptoBulkEntry {H : Type} : Lit × DataW H → Nat
  | (.string bytes, d) => bytes.length + uptoBulk d + 1
  | (_, d) => uptoBulk d + 1
 end
def uptoSmall : (H : Type) → List (DataW H) → Bool := fun _ ds => decide (uptoBulkAll ds ≤ 1048576)
def OpenSpec.upto (s : _root_.Go.ChangeSpec) : _root_.Go.OpenSpec := { _root_.Go.OpenSpec.ofChange s with cond := some uptoSmall }

/-- 'laws.FnExactJoinPrograms', WHERE WHAT IT READS IS OF BULK AT MOST 1048576: true; the input reads as it did. -/
def fnExactJoinProgramsUptoRow : OpenClaim := { program := "ytjggcekliaalgaa", sum := "172b1d2fe218854b70e711fc70c07f9a53a364441bb481fb1b8d6c1e9dc29f71", func := "loop.example/g01247/laws.FnExactJoinPrograms", spec := "fnExactJoinPrograms", inPlace := ["math.Float64bits", "math.Float64frombits"], unfollowed := true, recurses := true, apart := false, narrowed := true }
def FnExactJoinProgramsUptoSaid : Prop := fnExactJoinProgramsUptoRow.holds Try.pinned (OpenSpec.upto fnExactJoinProgramsSpec)

/-- 'laws.FnExactMeltSteps', WHERE WHAT IT READS IS OF BULK AT MOST 1048576: true; the input reads as it did. -/
def fnExactMeltStepsUptoRow : OpenClaim := { program := "ytjggcekliaalgaa", sum := "172b1d2fe218854b70e711fc70c07f9a53a364441bb481fb1b8d6c1e9dc29f71", func := "loop.example/g01247/laws.FnExactMeltSteps", spec := "fnExactMeltSteps", unfollowed := true, recurses := true, apart := false, narrowed := true }
def FnExactMeltStepsUptoSaid : Prop := fnExactMeltStepsUptoRow.holds Try.pinned (OpenSpec.upto fnExactMeltStepsSpec)

/-- 'laws.FnExactHopSome', WHERE WHAT IT READS IS OF BULK AT MOST 1048576: true; the input reads as it did. -/
def fnExactHopSomeUptoRow : OpenClaim := { program := "ytjggcekliaalgaa", sum := "172b1d2fe218854b70e711fc70c07f9a53a364441bb481fb1b8d6c1e9dc29f71", func := "loop.example/g01247/laws.FnExactHopSome", spec := "fnExactHopSome", unfollowed := true, recurses := true, apart := false, narrowed := true }
def FnExactHopSomeUptoSaid : Prop := fnExactHopSomeUptoRow.holds Try.pinned (OpenSpec.upto fnExactHopSomeSpec)

/-- 'laws.FnExactNucleiOf', WHERE WHAT IT READS IS OF BULK AT MOST 1048576: true; the input reads as it did. -/
def fnExactNucleiOfUptoRow : OpenClaim := { program := "ytjggcekliaalgaa", sum := "172b1d2fe218854b70e711fc70c07f9a53a364441bb481fb1b8d6c1e9dc29f71", func := "loop.example/g01247/laws.FnExactNucleiOf", spec := "fnExactNucleiOf", inPlace := ["math.Float64frombits", "math.Float64bits", "math.archFloor", "math.archTrunc"], unfollowed := true, recurses := true, apart := false, narrowed := true }
def FnExactNucleiOfUptoSaid : Prop := fnExactNucleiOfUptoRow.holds Try.pinned (OpenSpec.upto fnExactNucleiOfSpec)

/-- 'laws.FnExactHalvesAround', WHERE WHAT IT READS IS OF BULK AT MOST 1048576: true; the input reads as it did. -/
def fnExactHalvesAroundUptoRow : OpenClaim := { program := "ytjggcekliaalgaa", sum := "172b1d2fe218854b70e711fc70c07f9a53a364441bb481fb1b8d6c1e9dc29f71", func := "loop.example/g01247/laws.FnExactHalvesAround", spec := "fnExactHalvesAround", inPlace := ["math.Float32frombits", "math.Float64frombits", "math.Float64bits", "math.archTrunc"], apart := false, narrowed := true }
def FnExactHalvesAroundUptoSaid : Prop := fnExactHalvesAroundUptoRow.holds Try.pinned (OpenSpec.upto fnExactHalvesAroundSpec)

/-- 'laws.FnExactStepFlake', WHERE WHAT IT READS IS OF BULK AT MOST 1048576: true; the input reads as it did. -/
def fnExactStepFlakeUptoRow : OpenClaim := { program := "ytjggcekliaalgaa", sum := "172b1d2fe218854b70e711fc70c07f9a53a364441bb481fb1b8d6c1e9dc29f71", func := "loop.example/g01247/laws.FnExactStepFlake", spec := "fnExactStepFlake", inPlace := ["math.Float64bits", "math.Float64frombits"], unfollowed := true, recurses := true, apart := false, narrowed := true }
def FnExactStepFlakeUptoSaid : Prop := fnExactStepFlakeUptoRow.holds Try.pinned (OpenSpec.upto fnExactStepFlakeSpec)

/-- 'laws.FnExactRunFlake', WHERE WHAT IT READS IS OF BULK AT MOST 1048576: true; the input reads as it did. -/
def fnExactRunFlakeUptoRow : OpenClaim := { program := "ytjggcekliaalgaa", sum := "172b1d2fe218854b70e711fc70c07f9a53a364441bb481fb1b8d6c1e9dc29f71", func := "loop.example/g01247/laws.FnExactRunFlake", spec := "fnExactRunFlake", inPlace := ["math.Float64bits", "math.Float64frombits"], unfollowed := true, recurses := true, apart := false, narrowed := true }
def FnExactRunFlakeUptoSaid : Prop := fnExactRunFlakeUptoRow.holds Try.pinned (OpenSpec.upto fnExactRunFlakeSpec)

/-- 'laws.FnLayers', WHERE WHAT IT READS IS OF BULK AT MOST 1048576: true; the input reads as it did. -/
def fnLayersUptoRow : OpenClaim := { program := "ytjggcekliaalgaa", sum := "172b1d2fe218854b70e711fc70c07f9a53a364441bb481fb1b8d6c1e9dc29f71", func := "loop.example/g01247/laws.FnLayers", spec := "fnLayers", unfollowed := true, recurses := true, apart := false, narrowed := true }
def FnLayersUptoSaid : Prop := fnLayersUptoRow.holds Try.pinned (OpenSpec.upto fnLayersSpec)

end Rows
end Go.Proofs.Ytjggcekliaalgaa
