/-
  No cell of these rows narrows 'for every input' (looked for: loops, veiled, ifaces, maps, wideKeys, modest, calm, conditions, laid).
  DERIVED. THE GIVEN ROWS OF THIS SEAT. 7 by the template 'for every input the law returns true; each argument reads behind the call as it read before'; 0 by the template 'total and deterministic' (their statements: YthikgdgnfhafaaaTotals.lean).
  GIVEN WITH THE SEED: the statements are not yours to turn. If you find one false, say at which input.
  Laid BY PROGRAM, IN A SANDBOX (cutbox-rows.mjs): the forced cells as the released guide's own fill.sh prints them over the translation 16779fd717ef7190… (all of the seat's roots in one cut). By AI agents, Wed Nov 11 2026. No macro, syntax, notation, axiom, sorry.
-/
import Derived.Test.YthikgdgnfhafaaaChecked
import GoSem.Claim
import GoSem.ClaimJoined
import GoSem.ClaimMapViews
import Derived.JoinedTies
import Derived.KernelRfl
namespace Go.Proofs.Ythikgdgnfhafaaa
/- THE CELL 'sum', in the pinned program and in every row, IS THE sha256 OF THE DUMP (.gsa) THAT YthikgdgnfhafaaaProg.lean LOADS. Nothing in Lean hashes anything: it is a label: what it is worth is what the hold of that sum in a sandbox is worth. -/
noncomputable def Try.pinned : Pinned := { name := "ythikgdgnfhafaaa", sum := "16779fd717ef7190c33f1aacaae5fdcb584ef08cc312b6bda1cc19dd87eea931", checked := Try.checked }
namespace Rows
def none {H : Type} : Left H := { results := [], args := [] }

/-- 'laws.FnExactValidLaw': WHATEVER THE INPUT: true; the input reads as it did. -/
def fnExactValidLawSpec : ChangeSpec := { name := "fnExactValidLaw", fn := fun _ => fun
  | [d] => { results := [.lit (.bool true)], args := [d] }
  | _ => none }
def fnExactValidLawRow : OpenClaim := { program := "ythikgdgnfhafaaa", sum := "16779fd717ef7190c33f1aacaae5fdcb584ef08cc312b6bda1cc19dd87eea931", func := "loop.example/g01247/laws.FnExactValidLaw", spec := "fnExactValidLaw", inPlace := ["math.Float64bits", "math.Float64frombits"], apart := false }
def FnExactValidLawSaid : Prop := fnExactValidLawRow.holds Try.pinned (OpenSpec.ofChange fnExactValidLawSpec)

/-- ITS FALSE NEIGHBOUR: 'it returns false'. Refute it at one input. -/
def fnExactValidLawWrong : ChangeSpec := { name := "fnExactValidLaw", fn := fun _ => fun
  | [d] => { results := [.lit (.bool false)], args := [d] }
  | _ => none }
def FnExactValidLawWrongFalsely : Prop := fnExactValidLawRow.holds Try.pinned (OpenSpec.ofChange fnExactValidLawWrong)

/-- 'laws.FnExactExpNumber': WHATEVER THE INPUT: true; the input reads as it did. -/
def fnExactExpNumberSpec : ChangeSpec := { name := "fnExactExpNumber", fn := fun _ => fun
  | [d] => { results := [.lit (.bool true)], args := [d] }
  | _ => none }
def fnExactExpNumberRow : OpenClaim := { program := "ythikgdgnfhafaaa", sum := "16779fd717ef7190c33f1aacaae5fdcb584ef08cc312b6bda1cc19dd87eea931", func := "loop.example/g01247/laws.FnExactExpNumber", spec := "fnExactExpNumber", inPlace := ["math.Float64frombits"], apart := false }
def FnExactExpNumberSaid : Prop := fnExactExpNumberRow.holds Try.pinned (OpenSpec.ofChange fnExactExpNumberSpec)

/-- ITS FALSE NEIGHBOUR: 'it returns false'. Refute it at one input. -/
def fnExactExpNumberWrong : ChangeSpec := { name := "fnExactExpNumber", fn := fun _ => fun
  | [d] => { results := [.lit (.bool false)], args := [d] }
  | _ => none }
def FnExactExpNumberWrongFalsely : Prop := fnExactExpNumberRow.holds Try.pinned (OpenSpec.ofChange fnExactExpNumberWrong)

/-- 'laws.FnExactLogNumber': WHATEVER THE INPUT: true; the input reads as it did. -/
def fnExactLogNumberSpec : ChangeSpec := { name := "fnExactLogNumber", fn := fun _ => fun
  | [d] => { results := [.lit (.bool true)], args := [d] }
  | _ => none }
def fnExactLogNumberRow : OpenClaim := { program := "ythikgdgnfhafaaa", sum := "16779fd717ef7190c33f1aacaae5fdcb584ef08cc312b6bda1cc19dd87eea931", func := "loop.example/g01247/laws.FnExactLogNumber", spec := "fnExactLogNumber", inPlace := ["math.Float64frombits", "math.Float64bits"], apart := false }
def FnExactLogNumberSaid : Prop := fnExactLogNumberRow.holds Try.pinned (OpenSpec.ofChange fnExactLogNumberSpec)

/-- ITS FALSE NEIGHBOUR: 'it returns false'. Refute it at one input. -/
def fnExactLogNumberWrong : ChangeSpec := { name := "fnExactLogNumber", fn := fun _ => fun
  | [d] => { results := [.lit (.bool false)], args := [d] }
  | _ => none }
def FnExactLogNumberWrongFalsely : Prop := fnExactLogNumberRow.holds Try.pinned (OpenSpec.ofChange fnExactLogNumberWrong)

/-- 'laws.FnExactSameProgram': WHATEVER THE INPUT: true; the input reads as it did. -/
def fnExactSameProgramSpec : ChangeSpec := { name := "fnExactSameProgram", fn := fun _ => fun
  | [d1, d2] => { results := [.lit (.bool true)], args := [d1, d2] }
  | _ => none }
def fnExactSameProgramRow : OpenClaim := { program := "ythikgdgnfhafaaa", sum := "16779fd717ef7190c33f1aacaae5fdcb584ef08cc312b6bda1cc19dd87eea931", func := "loop.example/g01247/laws.FnExactSameProgram", spec := "fnExactSameProgram", inPlace := ["math.Float32bits", "math.Float64bits"], unfollowed := true, recurses := true, apart := false }
def FnExactSameProgramSaid : Prop := fnExactSameProgramRow.holds Try.pinned (OpenSpec.ofChange fnExactSameProgramSpec)

/-- ITS FALSE NEIGHBOUR: 'it returns false'. Refute it at one input. -/
def fnExactSameProgramWrong : ChangeSpec := { name := "fnExactSameProgram", fn := fun _ => fun
  | [d1, d2] => { results := [.lit (.bool false)], args := [d1, d2] }
  | _ => none }
def FnExactSameProgramWrongFalsely : Prop := fnExactSameProgramRow.holds Try.pinned (OpenSpec.ofChange fnExactSameProgramWrong)

/-- 'laws.FnExactNewtonCurve': WHATEVER THE INPUT: true; the input reads as it did. -/
def fnExactNewtonCurveSpec : ChangeSpec := { name := "fnExactNewtonCurve", fn := fun _ => fun
  | [d1, d2, d3, d4, d5] => { results := [.lit (.bool true)], args := [d1, d2, d3, d4, d5] }
  | _ => none }
def fnExactNewtonCurveRow : OpenClaim := { program := "ythikgdgnfhafaaa", sum := "16779fd717ef7190c33f1aacaae5fdcb584ef08cc312b6bda1cc19dd87eea931", func := "loop.example/g01247/laws.FnExactNewtonCurve", spec := "fnExactNewtonCurve", inPlace := ["math.Float64bits", "math.Float64frombits"], unfollowed := true, recurses := true, apart := false }
def FnExactNewtonCurveSaid : Prop := fnExactNewtonCurveRow.holds Try.pinned (OpenSpec.ofChange fnExactNewtonCurveSpec)

/-- ITS FALSE NEIGHBOUR: 'it returns false'. Refute it at one input. -/
def fnExactNewtonCurveWrong : ChangeSpec := { name := "fnExactNewtonCurve", fn := fun _ => fun
  | [d1, d2, d3, d4, d5] => { results := [.lit (.bool false)], args := [d1, d2, d3, d4, d5] }
  | _ => none }
def FnExactNewtonCurveWrongFalsely : Prop := fnExactNewtonCurveRow.holds Try.pinned (OpenSpec.ofChange fnExactNewtonCurveWrong)

/-- 'laws.FnExactValidProgram': WHATEVER THE INPUT: true; the input reads as it did. -/
def fnExactValidProgramSpec : ChangeSpec := { name := "fnExactValidProgram", fn := fun _ => fun
  | [d] => { results := [.lit (.bool true)], args := [d] }
  | _ => none }
def fnExactValidProgramRow : OpenClaim := { program := "ythikgdgnfhafaaa", sum := "16779fd717ef7190c33f1aacaae5fdcb584ef08cc312b6bda1cc19dd87eea931", func := "loop.example/g01247/laws.FnExactValidProgram", spec := "fnExactValidProgram", inPlace := ["math.Float64bits", "math.Float64frombits"], unfollowed := true, recurses := true, apart := false }
def FnExactValidProgramSaid : Prop := fnExactValidProgramRow.holds Try.pinned (OpenSpec.ofChange fnExactValidProgramSpec)

/-- ITS FALSE NEIGHBOUR: 'it returns false'. Refute it at one input. -/
def fnExactValidProgramWrong : ChangeSpec := { name := "fnExactValidProgram", fn := fun _ => fun
  | [d] => { results := [.lit (.bool false)], args := [d] }
  | _ => none }
def FnExactValidProgramWrongFalsely : Prop := fnExactValidProgramRow.holds Try.pinned (OpenSpec.ofChange fnExactValidProgramWrong)

/-- 'laws.FnExactSpeedAt': WHATEVER THE INPUT: true; the input reads as it did. -/
def fnExactSpeedAtSpec : ChangeSpec := { name := "fnExactSpeedAt", fn := fun _ => fun
  | [d1, d2] => { results := [.lit (.bool true)], args := [d1, d2] }
  | _ => none }
def fnExactSpeedAtRow : OpenClaim := { program := "ythikgdgnfhafaaa", sum := "16779fd717ef7190c33f1aacaae5fdcb584ef08cc312b6bda1cc19dd87eea931", func := "loop.example/g01247/laws.FnExactSpeedAt", spec := "fnExactSpeedAt", inPlace := ["math.Float64frombits", "math.Float64bits"], apart := false }
def FnExactSpeedAtSaid : Prop := fnExactSpeedAtRow.holds Try.pinned (OpenSpec.ofChange fnExactSpeedAtSpec)

/-- ITS FALSE NEIGHBOUR: 'it returns false'. Refute it at one input. -/
def fnExactSpeedAtWrong : ChangeSpec := { name := "fnExactSpeedAt", fn := fun _ => fun
  | [d1, d2] => { results := [.lit (.bool false)], args := [d1, d2] }
  | _ => none }
def FnExactSpeedAtWrongFalsely : Prop := fnExactSpeedAtRow.holds Try.pinned (OpenSpec.ofChange fnExactSpeedAtWrong)

/- THE SECOND FORM. 'bulk': how many values and letters a reading holds, each counted each time it is reached (what is shared counts as often as it is met; a slice's spare places count too). A statement '..UptoSaid' is the law's where the arguments, and the package variables that the reading takes, are together of bulk at most 1048576: NARROWER than '..Said'. Prove '..Said' where nothing that the law and all that it calls make is longer than what came in: it says more and counts as full. Else prove '..UptoSaid'. A law counts once. -/
mutual
def uptoBulk {H : Type} : DataW H → Nat
  | .lit (.string bytes) => bytes.length + 1
  | .lit _ => 1
  | .nil => 1
  | .ptr d => uptoBulk d + 1
  | .slice elems spare => uptoBulkAll elems + uptoBulkAll spare + 1
  | .agg parts => uptoBulkAll parts + 1
  | .iface _ d => uptoBulk d + 1
  | .map entries => uptoBulkEntries entries + 1
  | .held _ => 1
def uptoBulkAll {H : Type} : List (DataW H) → Nat
  | [] => 0
  | d :: r => uptoBulk d + uptoBulkAll r
def uptoBulkEntries {H : Type} : List (Lit × DataW H) → Nat
  | [] => 0
  | x :: r => uptoBulkEntry x + uptoBulkEntries r
def uptoBulkEntry {H : Type} : Lit × DataW H → Nat
  | (.string bytes, d) => bytes.length + uptoBulk d + 1
  | (_, d) => uptoBulk d + 1
 end
def uptoSmall : (H : Type) → List (DataW H) → Bool := fun _ ds => decide (uptoBulkAll ds ≤ 1048576)
def OpenSpec.upto (s : _root_.Go.ChangeSpec) : _root_.Go.OpenSpec := { _root_.Go.OpenSpec.ofChange s with cond := some uptoSmall }

/-- 'laws.FnExactValidLaw', WHERE WHAT IT READS IS OF BULK AT MOST 1048576: true; the input reads as it did. -/
def fnExactValidLawUptoRow : OpenClaim := { program := "ythikgdgnfhafaaa", sum := "16779fd717ef7190c33f1aacaae5fdcb584ef08cc312b6bda1cc19dd87eea931", func := "loop.example/g01247/laws.FnExactValidLaw", spec := "fnExactValidLaw", inPlace := ["math.Float64bits", "math.Float64frombits"], apart := false, narrowed := true }
def FnExactValidLawUptoSaid : Prop := fnExactValidLawUptoRow.holds Try.pinned (OpenSpec.upto fnExactValidLawSpec)

/-- 'laws.FnExactExpNumber', WHERE WHAT IT READS IS OF BULK AT MOST 1048576: true; the input reads as it did. -/
def fnExactExpNumberUptoRow : OpenClaim := { program := "ythikgdgnfhafaaa", sum := "16779fd717ef7190c33f1aacaae5fdcb584ef08cc312b6bda1cc19dd87eea931", func := "loop.example/g01247/laws.FnExactExpNumber", spec := "fnExactExpNumber", inPlace := ["math.Float64frombits"], apart := false, narrowed := true }
def FnExactExpNumberUptoSaid : Prop := fnExactExpNumberUptoRow.holds Try.pinned (OpenSpec.upto fnExactExpNumberSpec)

/-- 'laws.FnExactLogNumber', WHERE WHAT IT READS IS OF BULK AT MOST 1048576: true; the input reads as it did. -/
def fnExactLogNumberUptoRow : OpenClaim := { program := "ythikgdgnfhafaaa", sum := "16779fd717ef7190c33f1aacaae5fdcb584ef08cc312b6bda1cc19dd87eea931", func := "loop.example/g01247/laws.FnExactLogNumber", spec := "fnExactLogNumber", inPlace := ["math.Float64frombits", "math.Float64bits"], apart := false, narrowed := true }
def FnExactLogNumberUptoSaid : Prop := fnExactLogNumberUptoRow.holds Try.pinned (OpenSpec.upto fnExactLogNumberSpec)

/-- 'laws.FnExactSameProgram', WHERE WHAT IT READS IS OF BULK AT MOST 1048576: true; the input reads as it did. -/
def fnExactSameProgramUptoRow : OpenClaim := { program := "ythikgdgnfhafaaa", sum := "16779fd717ef7190c33f1aacaae5fdcb584ef08cc312b6bda1cc19dd87eea931", func := "loop.example/g01247/laws.FnExactSameProgram", spec := "fnExactSameProgram", inPlace := ["math.Float32bits", "math.Float64bits"], unfollowed := true, recurses := true, apart := false, narrowed := true }
def FnExactSameProgramUptoSaid : Prop := fnExactSameProgramUptoRow.holds Try.pinned (OpenSpec.upto fnExactSameProgramSpec)

/-- 'laws.FnExactNewtonCurve', WHERE WHAT IT READS IS OF BULK AT MOST 1048576: true; the input reads as it did. -/
def fnExactNewtonCurveUptoRow : OpenClaim := { program := "ythikgdgnfhafaaa", sum := "16779fd717ef7190c33f1aacaae5fdcb584ef08cc312b6bda1cc19dd87eea931", func := "loop.example/g01247/laws.FnExactNewtonCurve", spec := "fnExactNewtonCurve", inPlace := ["math.Float64bits", "math.Float64frombits"], unfollowed := true, recurses := true, apart := false, narrowed := true }
def FnExactNewtonCurveUptoSaid : Prop := fnExactNewtonCurveUptoRow.holds Try.pinned (OpenSpec.upto fnExactNewtonCurveSpec)

/-- 'laws.FnExactValidProgram', WHERE WHAT IT READS IS OF BULK AT MOST 1048576: true; the input reads as it did. -/
def fnExactValidProgramUptoRow : OpenClaim := { program := "ythikgdgnfhafaaa", sum := "16779fd717ef7190c33f1aacaae5fdcb584ef08cc312b6bda1cc19dd87eea931", func := "loop.example/g01247/laws.FnExactValidProgram", spec := "fnExactValidProgram", inPlace := ["math.Float64bits", "math.Float64frombits"], unfollowed := true, recurses := true, apart := false, narrowed := true }
def FnExactValidProgramUptoSaid : Prop := fnExactValidProgramUptoRow.holds Try.pinned (OpenSpec.upto fnExactValidProgramSpec)

/-- 'laws.FnExactSpeedAt', WHERE WHAT IT READS IS OF BULK AT MOST 1048576: true; the input reads as it did. -/
def fnExactSpeedAtUptoRow : OpenClaim := { program := "ythikgdgnfhafaaa", sum := "16779fd717ef7190c33f1aacaae5fdcb584ef08cc312b6bda1cc19dd87eea931", func := "loop.example/g01247/laws.FnExactSpeedAt", spec := "fnExactSpeedAt", inPlace := ["math.Float64frombits", "math.Float64bits"], apart := false, narrowed := true }
def FnExactSpeedAtUptoSaid : Prop := fnExactSpeedAtUptoRow.holds Try.pinned (OpenSpec.upto fnExactSpeedAtSpec)

end Rows
end Go.Proofs.Ythikgdgnfhafaaa
