/-
  No cell of these rows narrows 'for every input' (looked for: loops, veiled, ifaces, maps, wideKeys, modest, calm, conditions, laid).
  DERIVED. THE GIVEN ROWS OF THIS SEAT. 11 by the template 'for every input the law returns true; each argument reads behind the call as it read before'; 0 by the template 'total and deterministic' (their statements: YtgmjoehnkannkaaTotals.lean).
  GIVEN WITH THE SEED: the statements are not yours to turn. If you find one false, say at which input.
  Laid BY PROGRAM, IN A SANDBOX (cutbox-rows.mjs): the forced cells as the released guide's own fill.sh prints them over the translation 193c6a26a2610a5b… (all of the seat's roots in one cut). By AI agents, Wed Nov 11 2026. No macro, syntax, notation, axiom, sorry.
-/
import Derived.Test.YtgmjoehnkannkaaChecked
import GoSem.Claim
import GoSem.ClaimJoined
import GoSem.ClaimMapViews
import Derived.JoinedTies
import Derived.KernelRfl
namespace Go.Proofs.Ytgmjoehnkannkaa
/- THE CELL 'sum', in the pinned program and in every row, IS THE sha256 OF THE DUMP (.gsa) THAT YtgmjoehnkannkaaProg.lean LOADS. Nothing in Lean hashes anything: it is a label: what it is worth is what the hold of that sum in a sandbox is worth. -/
noncomputable def Try.pinned : Pinned := { name := "ytgmjoehnkannkaa", sum := "193c6a26a2610a5b3ddd77f6d9403a3b7a4a98a537edb124d688d4f8ebb58de5", checked := Try.checked }
namespace Rows
def none {H : Type} : Left H := { results := [], args := [] }

/-- 'laws.FnExactLogNumber': WHATEVER THE INPUT: true; the input reads as it did. -/
def fnExactLogNumberSpec : ChangeSpec := { name := "fnExactLogNumber", fn := fun _ => fun
  | [d] => { results := [.lit (.bool true)], args := [d] }
  | _ => none }
def fnExactLogNumberRow : OpenClaim := { program := "ytgmjoehnkannkaa", sum := "193c6a26a2610a5b3ddd77f6d9403a3b7a4a98a537edb124d688d4f8ebb58de5", func := "loop.example/g01247/laws.FnExactLogNumber", spec := "fnExactLogNumber", inPlace := ["math.Float64frombits", "math.Float64bits"], apart := false }
def FnExactLogNumberSaid : Prop := fnExactLogNumberRow.holds Try.pinned (OpenSpec.ofChange fnExactLogNumberSpec)

/-- ITS FALSE NEIGHBOUR: 'it returns false'. Refute it at one input. -/
def fnExactLogNumberWrong : ChangeSpec := { name := "fnExactLogNumber", fn := fun _ => fun
  | [d] => { results := [.lit (.bool false)], args := [d] }
  | _ => none }
def FnExactLogNumberWrongFalsely : Prop := fnExactLogNumberRow.holds Try.pinned (OpenSpec.ofChange fnExactLogNumberWrong)

/-- 'laws.FnExactNewtonCurve': WHATEVER THE INPUT: true; the input reads as it did. -/
def fnExactNewtonCurveSpec : ChangeSpec := { name := "fnExactNewtonCurve", fn := fun _ => fun
  | [d1, d2, d3, d4, d5] => { results := [.lit (.bool true)], args := [d1, d2, d3, d4, d5] }
  | _ => none }
def fnExactNewtonCurveRow : OpenClaim := { program := "ytgmjoehnkannkaa", sum := "193c6a26a2610a5b3ddd77f6d9403a3b7a4a98a537edb124d688d4f8ebb58de5", func := "loop.example/g01247/laws.FnExactNewtonCurve", spec := "fnExactNewtonCurve", inPlace := ["math.Float64bits", "math.Float64frombits"], unfollowed := true, recurses := true, apart := false }
def FnExactNewtonCurveSaid : Prop := fnExactNewtonCurveRow.holds Try.pinned (OpenSpec.ofChange fnExactNewtonCurveSpec)

/-- ITS FALSE NEIGHBOUR: 'it returns false'. Refute it at one input. -/
def fnExactNewtonCurveWrong : ChangeSpec := { name := "fnExactNewtonCurve", fn := fun _ => fun
  | [d1, d2, d3, d4, d5] => { results := [.lit (.bool false)], args := [d1, d2, d3, d4, d5] }
  | _ => none }
def FnExactNewtonCurveWrongFalsely : Prop := fnExactNewtonCurveRow.holds Try.pinned (OpenSpec.ofChange fnExactNewtonCurveWrong)

/-- 'laws.FnExactSpeedAt': WHATEVER THE INPUT: true; the input reads as it did. -/
def fnExactSpeedAtSpec : ChangeSpec := { name := "fnExactSpeedAt", fn := fun _ => fun
  | [d1, d2] => { results := [.lit (.bool true)], args := [d1, d2] }
  | _ => none }
def fnExactSpeedAtRow : OpenClaim := { program := "ytgmjoehnkannkaa", sum := "193c6a26a2610a5b3ddd77f6d9403a3b7a4a98a537edb124d688d4f8ebb58de5", func := "loop.example/g01247/laws.FnExactSpeedAt", spec := "fnExactSpeedAt", inPlace := ["math.Float64frombits", "math.Float64bits"], apart := false }
def FnExactSpeedAtSaid : Prop := fnExactSpeedAtRow.holds Try.pinned (OpenSpec.ofChange fnExactSpeedAtSpec)

/-- ITS FALSE NEIGHBOUR: 'it returns false'. Refute it at one input. -/
def fnExactSpeedAtWrong : ChangeSpec := { name := "fnExactSpeedAt", fn := fun _ => fun
  | [d1, d2] => { results := [.lit (.bool false)], args := [d1, d2] }
  | _ => none }
def FnExactSpeedAtWrongFalsely : Prop := fnExactSpeedAtRow.holds Try.pinned (OpenSpec.ofChange fnExactSpeedAtWrong)

/-- 'laws.FnExactShareAfter': WHATEVER THE INPUT: true; the input reads as it did. -/
def fnExactShareAfterSpec : ChangeSpec := { name := "fnExactShareAfter", fn := fun _ => fun
  | [d1, d2, d3] => { results := [.lit (.bool true)], args := [d1, d2, d3] }
  | _ => none }
def fnExactShareAfterRow : OpenClaim := { program := "ytgmjoehnkannkaa", sum := "193c6a26a2610a5b3ddd77f6d9403a3b7a4a98a537edb124d688d4f8ebb58de5", func := "loop.example/g01247/laws.FnExactShareAfter", spec := "fnExactShareAfter", inPlace := ["math.Float64frombits", "math.Float64bits"], apart := false }
def FnExactShareAfterSaid : Prop := fnExactShareAfterRow.holds Try.pinned (OpenSpec.ofChange fnExactShareAfterSpec)

/-- ITS FALSE NEIGHBOUR: 'it returns false'. Refute it at one input. -/
def fnExactShareAfterWrong : ChangeSpec := { name := "fnExactShareAfter", fn := fun _ => fun
  | [d1, d2, d3] => { results := [.lit (.bool false)], args := [d1, d2, d3] }
  | _ => none }
def FnExactShareAfterWrongFalsely : Prop := fnExactShareAfterRow.holds Try.pinned (OpenSpec.ofChange fnExactShareAfterWrong)

/-- 'laws.FnExactSlopeAt': WHATEVER THE INPUT: true; the input reads as it did. -/
def fnExactSlopeAtSpec : ChangeSpec := { name := "fnExactSlopeAt", fn := fun _ => fun
  | [d1, d2] => { results := [.lit (.bool true)], args := [d1, d2] }
  | _ => none }
def fnExactSlopeAtRow : OpenClaim := { program := "ytgmjoehnkannkaa", sum := "193c6a26a2610a5b3ddd77f6d9403a3b7a4a98a537edb124d688d4f8ebb58de5", func := "loop.example/g01247/laws.FnExactSlopeAt", spec := "fnExactSlopeAt", inPlace := ["math.Float64bits", "math.Float64frombits"], unfollowed := true, recurses := true, apart := false }
def FnExactSlopeAtSaid : Prop := fnExactSlopeAtRow.holds Try.pinned (OpenSpec.ofChange fnExactSlopeAtSpec)

/-- ITS FALSE NEIGHBOUR: 'it returns false'. Refute it at one input. -/
def fnExactSlopeAtWrong : ChangeSpec := { name := "fnExactSlopeAt", fn := fun _ => fun
  | [d1, d2] => { results := [.lit (.bool false)], args := [d1, d2] }
  | _ => none }
def FnExactSlopeAtWrongFalsely : Prop := fnExactSlopeAtRow.holds Try.pinned (OpenSpec.ofChange fnExactSlopeAtWrong)

/-- 'laws.FnExactTempAt': WHATEVER THE INPUT: true; the input reads as it did. -/
def fnExactTempAtSpec : ChangeSpec := { name := "fnExactTempAt", fn := fun _ => fun
  | [d1, d2] => { results := [.lit (.bool true)], args := [d1, d2] }
  | _ => none }
def fnExactTempAtRow : OpenClaim := { program := "ytgmjoehnkannkaa", sum := "193c6a26a2610a5b3ddd77f6d9403a3b7a4a98a537edb124d688d4f8ebb58de5", func := "loop.example/g01247/laws.FnExactTempAt", spec := "fnExactTempAt", inPlace := ["math.Float64bits", "math.Float64frombits"], unfollowed := true, recurses := true, apart := false }
def FnExactTempAtSaid : Prop := fnExactTempAtRow.holds Try.pinned (OpenSpec.ofChange fnExactTempAtSpec)

/-- ITS FALSE NEIGHBOUR: 'it returns false'. Refute it at one input. -/
def fnExactTempAtWrong : ChangeSpec := { name := "fnExactTempAt", fn := fun _ => fun
  | [d1, d2] => { results := [.lit (.bool false)], args := [d1, d2] }
  | _ => none }
def FnExactTempAtWrongFalsely : Prop := fnExactTempAtRow.holds Try.pinned (OpenSpec.ofChange fnExactTempAtWrong)

/-- 'laws.FnExactStretchProgram': WHATEVER THE INPUT: true; the input reads as it did. -/
def fnExactStretchProgramSpec : ChangeSpec := { name := "fnExactStretchProgram", fn := fun _ => fun
  | [d1, d2] => { results := [.lit (.bool true)], args := [d1, d2] }
  | _ => none }
def fnExactStretchProgramRow : OpenClaim := { program := "ytgmjoehnkannkaa", sum := "193c6a26a2610a5b3ddd77f6d9403a3b7a4a98a537edb124d688d4f8ebb58de5", func := "loop.example/g01247/laws.FnExactStretchProgram", spec := "fnExactStretchProgram", inPlace := ["math.Float64bits", "math.Float64frombits"], unfollowed := true, recurses := true, apart := false }
def FnExactStretchProgramSaid : Prop := fnExactStretchProgramRow.holds Try.pinned (OpenSpec.ofChange fnExactStretchProgramSpec)

/-- ITS FALSE NEIGHBOUR: 'it returns false'. Refute it at one input. -/
def fnExactStretchProgramWrong : ChangeSpec := { name := "fnExactStretchProgram", fn := fun _ => fun
  | [d1, d2] => { results := [.lit (.bool false)], args := [d1, d2] }
  | _ => none }
def FnExactStretchProgramWrongFalsely : Prop := fnExactStretchProgramRow.holds Try.pinned (OpenSpec.ofChange fnExactStretchProgramWrong)

/-- 'laws.FnExactHeldCurve': WHATEVER THE INPUT: true; the input reads as it did. -/
def fnExactHeldCurveSpec : ChangeSpec := { name := "fnExactHeldCurve", fn := fun _ => fun
  | [d1, d2, d3] => { results := [.lit (.bool true)], args := [d1, d2, d3] }
  | _ => none }
def fnExactHeldCurveRow : OpenClaim := { program := "ytgmjoehnkannkaa", sum := "193c6a26a2610a5b3ddd77f6d9403a3b7a4a98a537edb124d688d4f8ebb58de5", func := "loop.example/g01247/laws.FnExactHeldCurve", spec := "fnExactHeldCurve", inPlace := ["math.Float64frombits", "math.Float64bits"], unfollowed := true, recurses := true, apart := false }
def FnExactHeldCurveSaid : Prop := fnExactHeldCurveRow.holds Try.pinned (OpenSpec.ofChange fnExactHeldCurveSpec)

/-- ITS FALSE NEIGHBOUR: 'it returns false'. Refute it at one input. -/
def fnExactHeldCurveWrong : ChangeSpec := { name := "fnExactHeldCurve", fn := fun _ => fun
  | [d1, d2, d3] => { results := [.lit (.bool false)], args := [d1, d2, d3] }
  | _ => none }
def FnExactHeldCurveWrongFalsely : Prop := fnExactHeldCurveRow.holds Try.pinned (OpenSpec.ofChange fnExactHeldCurveWrong)

/-- 'laws.FnExactTimeFor': WHATEVER THE INPUT: true; the input reads as it did. -/
def fnExactTimeForSpec : ChangeSpec := { name := "fnExactTimeFor", fn := fun _ => fun
  | [d1, d2, d3] => { results := [.lit (.bool true)], args := [d1, d2, d3] }
  | _ => none }
def fnExactTimeForRow : OpenClaim := { program := "ytgmjoehnkannkaa", sum := "193c6a26a2610a5b3ddd77f6d9403a3b7a4a98a537edb124d688d4f8ebb58de5", func := "loop.example/g01247/laws.FnExactTimeFor", spec := "fnExactTimeFor", inPlace := ["math.Float64frombits", "math.Float64bits"], apart := false }
def FnExactTimeForSaid : Prop := fnExactTimeForRow.holds Try.pinned (OpenSpec.ofChange fnExactTimeForSpec)

/-- ITS FALSE NEIGHBOUR: 'it returns false'. Refute it at one input. -/
def fnExactTimeForWrong : ChangeSpec := { name := "fnExactTimeFor", fn := fun _ => fun
  | [d1, d2, d3] => { results := [.lit (.bool false)], args := [d1, d2, d3] }
  | _ => none }
def FnExactTimeForWrongFalsely : Prop := fnExactTimeForRow.holds Try.pinned (OpenSpec.ofChange fnExactTimeForWrong)

/-- 'laws.FnExactJoinPrograms': WHATEVER THE INPUT: true; the input reads as it did. -/
def fnExactJoinProgramsSpec : ChangeSpec := { name := "fnExactJoinPrograms", fn := fun _ => fun
  | [d1, d2] => { results := [.lit (.bool true)], args := [d1, d2] }
  | _ => none }
def fnExactJoinProgramsRow : OpenClaim := { program := "ytgmjoehnkannkaa", sum := "193c6a26a2610a5b3ddd77f6d9403a3b7a4a98a537edb124d688d4f8ebb58de5", func := "loop.example/g01247/laws.FnExactJoinPrograms", spec := "fnExactJoinPrograms", inPlace := ["math.Float64bits", "math.Float64frombits"], unfollowed := true, recurses := true, apart := false }
def FnExactJoinProgramsSaid : Prop := fnExactJoinProgramsRow.holds Try.pinned (OpenSpec.ofChange fnExactJoinProgramsSpec)

/-- ITS FALSE NEIGHBOUR: 'it returns false'. Refute it at one input. -/
def fnExactJoinProgramsWrong : ChangeSpec := { name := "fnExactJoinPrograms", fn := fun _ => fun
  | [d1, d2] => { results := [.lit (.bool false)], args := [d1, d2] }
  | _ => none }
def FnExactJoinProgramsWrongFalsely : Prop := fnExactJoinProgramsRow.holds Try.pinned (OpenSpec.ofChange fnExactJoinProgramsWrong)

/-- 'laws.FnExactSamplesOf': WHATEVER THE INPUT: true; the input reads as it did. -/
def fnExactSamplesOfSpec : ChangeSpec := { name := "fnExactSamplesOf", fn := fun _ => fun
  | [d1, d2] => { results := [.lit (.bool true)], args := [d1, d2] }
  | _ => none }
def fnExactSamplesOfRow : OpenClaim := { program := "ytgmjoehnkannkaa", sum := "193c6a26a2610a5b3ddd77f6d9403a3b7a4a98a537edb124d688d4f8ebb58de5", func := "loop.example/g01247/laws.FnExactSamplesOf", spec := "fnExactSamplesOf", inPlace := ["math.Float64bits", "math.Float64frombits"], unfollowed := true, recurses := true, apart := false }
def FnExactSamplesOfSaid : Prop := fnExactSamplesOfRow.holds Try.pinned (OpenSpec.ofChange fnExactSamplesOfSpec)

/-- ITS FALSE NEIGHBOUR: 'it returns false'. Refute it at one input. -/
def fnExactSamplesOfWrong : ChangeSpec := { name := "fnExactSamplesOf", fn := fun _ => fun
  | [d1, d2] => { results := [.lit (.bool false)], args := [d1, d2] }
  | _ => none }
def FnExactSamplesOfWrongFalsely : Prop := fnExactSamplesOfRow.holds Try.pinned (OpenSpec.ofChange fnExactSamplesOfWrong)

/- THE SECOND FORM. 'bulk': how many values and letters a reading holds, each counted each time it is reached (what is shared counts as often as it is met; a slice's spare places count too). A statement '..UptoSaid' is the law's where the arguments, and the package variables that the reading takes, are together of bulk at most 1048576: NARROWER than '..Said'. Prove '..Said' where nothing that the law and all that it calls make is longer than what came in: it says more and counts as full. Else prove '..UptoSaid'. A law counts once. -/
mutual
def uptoBulk {H : Type} : DataW H → Nat
  | .lit (.string bytes) => bytes.length + 1
  | .lit _ => 1
  | .nil => 1
  | .ptr d => uptoBulk d + 1
  | .slice elems spare => uptoBulkAll elems + uptoBulkAll spare + 1
  | .agg parts => uptoBulkAll parts + 1
  | .iface _ d => uptoBulk d + 1
  | .map entries => uptoBulkEntries entries + 1
  | .held _ => 1
def uptoBulkAll {H : Type} : List (DataW H) → Nat
  | [] => 0
  | d :: r => uptoBulk d + uptoBulkAll r
def uptoBulkEntries {H : Type} : List (Lit × DataW H) → Nat
  | [] => 0
  | x :: r => uptoBulkEntry x + uptoBulkEntries r
def uptoBulkEntry {H : Type} : Lit × DataW H → Nat
  | (.string bytes, d) => bytes.length + uptoBulk d + 1
  | (_, d) => uptoBulk d + 1
 end
def uptoSmall : (H : Type) → List (DataW H) → Bool := fun _ ds => decide (uptoBulkAll ds ≤ 1048576)
def OpenSpec.upto (s : _root_.Go.ChangeSpec) : _root_.Go.OpenSpec := { _root_.Go.OpenSpec.ofChange s with cond := some uptoSmall }

/-- 'laws.FnExactLogNumber', WHERE WHAT IT READS IS OF BULK AT MOST 1048576: true; the input reads as it did. -/
def fnExactLogNumberUptoRow : OpenClaim := { program := "ytgmjoehnkannkaa", sum := "193c6a26a2610a5b3ddd77f6d9403a3b7a4a98a537edb124d688d4f8ebb58de5", func := "loop.example/g01247/laws.FnExactLogNumber", spec := "fnExactLogNumber", inPlace := ["math.Float64frombits", "math.Float64bits"], apart := false, narrowed := true }
def FnExactLogNumberUptoSaid : Prop := fnExactLogNumberUptoRow.holds Try.pinned (OpenSpec.upto fnExactLogNumberSpec)

/-- 'laws.FnExactNewtonCurve', WHERE WHAT IT READS IS OF BULK AT MOST 1048576: true; the input reads as it did. -/
def fnExactNewtonCurveUptoRow : OpenClaim := { program := "ytgmjoehnkannkaa", sum := "193c6a26a2610a5b3ddd77f6d9403a3b7a4a98a537edb124d688d4f8ebb58de5", func := "loop.example/g01247/laws.FnExactNewtonCurve", spec := "fnExactNewtonCurve", inPlace := ["math.Float64bits", "math.Float64frombits"], unfollowed := true, recurses := true, apart := false, narrowed := true }
def FnExactNewtonCurveUptoSaid : Prop := fnExactNewtonCurveUptoRow.holds Try.pinned (OpenSpec.upto fnExactNewtonCurveSpec)

/-- 'laws.FnExactSpeedAt', WHERE WHAT IT READS IS OF BULK AT MOST 1048576: true; the input reads as it did. -/
def fnExactSpeedAtUptoRow : OpenClaim := { program := "ytgmjoehnkannkaa", sum := "193c6a26a2610a5b3ddd77f6d9403a3b7a4a98a537edb124d688d4f8ebb58de5", func := "loop.example/g01247/laws.FnExactSpeedAt", spec := "fnExactSpeedAt", inPlace := ["math.Float64frombits", "math.Float64bits"], apart := false, narrowed := true }
def FnExactSpeedAtUptoSaid : Prop := fnExactSpeedAtUptoRow.holds Try.pinned (OpenSpec.upto fnExactSpeedAtSpec)

/-- 'laws.FnExactShareAfter', WHERE WHAT IT READS IS OF BULK AT MOST 1048576: true; the input reads as it did. -/
def fnExactShareAfterUptoRow : OpenClaim := { program := "ytgmjoehnkannkaa", sum := "193c6a26a2610a5b3ddd77f6d9403a3b7a4a98a537edb124d688d4f8ebb58de5", func := "loop.example/g01247/laws.FnExactShareAfter", spec := "fnExactShareAfter", inPlace := ["math.Float64frombits", "math.Float64bits"], apart := false, narrowed := true }
def FnExactShareAfterUptoSaid : Prop := fnExactShareAfterUptoRow.holds Try.pinned (OpenSpec.upto fnExactShareAfterSpec)

/-- 'laws.FnExactSlopeAt', WHERE WHAT IT READS IS OF BULK AT MOST 1048576: true; the input reads as it did. -/
def fnExactSlopeAtUptoRow : OpenClaim := { program := "ytgmjoehnkannkaa", sum := "193c6a26a2610a5b3ddd77f6d9403a3b7a4a98a537edb124d688d4f8ebb58de5", func := "loop.example/g01247/laws.FnExactSlopeAt", spec := "fnExactSlopeAt", inPlace := ["math.Float64bits", "math.Float64frombits"], unfollowed := true, recurses := true, apart := false, narrowed := true }
def FnExactSlopeAtUptoSaid : Prop := fnExactSlopeAtUptoRow.holds Try.pinned (OpenSpec.upto fnExactSlopeAtSpec)

/-- 'laws.FnExactTempAt', WHERE WHAT IT READS IS OF BULK AT MOST 1048576: true; the input reads as it did. -/
def fnExactTempAtUptoRow : OpenClaim := { program := "ytgmjoehnkannkaa", sum := "193c6a26a2610a5b3ddd77f6d9403a3b7a4a98a537edb124d688d4f8ebb58de5", func := "loop.example/g01247/laws.FnExactTempAt", spec := "fnExactTempAt", inPlace := ["math.Float64bits", "math.Float64frombits"], unfollowed := true, recurses := true, apart := false, narrowed := true }
def FnExactTempAtUptoSaid : Prop := fnExactTempAtUptoRow.holds Try.pinned (OpenSpec.upto fnExactTempAtSpec)

/-- 'laws.FnExactStretchProgram', WHERE WHAT IT READS IS OF BULK AT MOST 1048576: true; the input reads as it did. -/
def fnExactStretchProgramUptoRow : OpenClaim := { program := "ytgmjoehnkannkaa", sum := "193c6a26a2610a5b3ddd77f6d9403a3b7a4a98a537edb124d688d4f8ebb58de5", func := "loop.example/g01247/laws.FnExactStretchProgram", spec := "fnExactStretchProgram", inPlace := ["math.Float64bits", "math.Float64frombits"], unfollowed := true, recurses := true, apart := false, narrowed := true }
def FnExactStretchProgramUptoSaid : Prop := fnExactStretchProgramUptoRow.holds Try.pinned (OpenSpec.upto fnExactStretchProgramSpec)

/-- 'laws.FnExactHeldCurve', WHERE WHAT IT READS IS OF BULK AT MOST 1048576: true; the input reads as it did. -/
def fnExactHeldCurveUptoRow : OpenClaim := { program := "ytgmjoehnkannkaa", sum := "193c6a26a2610a5b3ddd77f6d9403a3b7a4a98a537edb124d688d4f8ebb58de5", func := "loop.example/g01247/laws.FnExactHeldCurve", spec := "fnExactHeldCurve", inPlace := ["math.Float64frombits", "math.Float64bits"], unfollowed := true, recurses := true, apart := false, narrowed := true }
def FnExactHeldCurveUptoSaid : Prop := fnExactHeldCurveUptoRow.holds Try.pinned (OpenSpec.upto fnExactHeldCurveSpec)

/-- 'laws.FnExactTimeFor', WHERE WHAT IT READS IS OF BULK AT MOST 1048576: true; the input reads as it did. -/
def fnExactTimeForUptoRow : OpenClaim := { program := "ytgmjoehnkannkaa", sum := "193c6a26a2610a5b3ddd77f6d9403a3b7a4a98a537edb124d688d4f8ebb58de5", func := "loop.example/g01247/laws.FnExactTimeFor", spec := "fnExactTimeFor", inPlace := ["math.Float64frombits", "math.Float64bits"], apart := false, narrowed := true }
def FnExactTimeForUptoSaid : Prop := fnExactTimeForUptoRow.holds Try.pinned (OpenSpec.upto fnExactTimeForSpec)

/-- 'laws.FnExactJoinPrograms', WHERE WHAT IT READS IS OF BULK AT MOST 1048576: true; the input reads as it did. -/
def fnExactJoinProgramsUptoRow : OpenClaim := { program := "ytgmjoehnkannkaa", sum := "193c6a26a2610a5b3ddd77f6d9403a3b7a4a98a537edb124d688d4f8ebb58de5", func := "loop.example/g01247/laws.FnExactJoinPrograms", spec := "fnExactJoinPrograms", inPlace := ["math.Float64bits", "math.Float64frombits"], unfollowed := true, recurses := true, apart := false, narrowed := true }
def FnExactJoinProgramsUptoSaid : Prop := fnExactJoinProgramsUptoRow.holds Try.pinned (OpenSpec.upto fnExactJoinProgramsSpec)

/-- 'laws.FnExactSamplesOf', WHERE WHAT IT READS IS OF BULK AT MOST 1048576: true; the input reads as it did. -/
def fnExactSamplesOfUptoRow : OpenClaim := { program := "ytgmjoehnkannkaa", sum := "193c6a26a2610a5b3ddd77f6d9403a3b7a4a98a537edb124d688d4f8ebb58de5", func := "loop.example/g01247/laws.FnExactSamplesOf", spec := "fnExactSamplesOf", inPlace := ["math.Float64bits", "math.Float64frombits"], unfollowed := true, recurses := true, apart := false, narrowed := true }
def FnExactSamplesOfUptoSaid : Prop := fnExactSamplesOfUptoRow.holds Try.pinned (OpenSpec.upto fnExactSamplesOfSpec)

end Rows
end Go.Proofs.Ytgmjoehnkannkaa
