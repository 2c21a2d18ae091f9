/-
  'FTold': what a function does, sealed (so that nobody unfolds the program when the name of a telling is taken).
-/
import Derived.Test.YtgmjoehnkannkaaAbIter
namespace Go.Ab

@[irreducible] def FTold (P : Program) (f : Nat) (s : FSpec) : Prop := SpecOk' P f s
theorem ftold {P : Program} {f : Nat} {s : FSpec} (h : SpecOk' P f s) : FTold P f s := by unfold FTold; exact h
theorem FTold.out {P : Program} {f : Nat} {s : FSpec} (h : FTold P f s) : SpecOk' P f s := by unfold FTold at h; exact h

def FTolds (P : Program) : List (Nat × FSpec) → Prop
  | [] => True
  | (f, s) :: r => FTold P f s ∧ FTolds P r

theorem FTolds.specs {P : Program} : ∀ {l : List (Nat × FSpec)}, FTolds P l → SpecsOk P l
  | [], _ => trivial
  | (_, _) :: _, h => ⟨h.1.out, FTolds.specs h.2⟩

theorem walkedF {P : Program} {ts : List (Nat × TyI)} {fs : List Nat} {ss : List (Nat × FSpec)} {loop : Nat → Nat → Nat → Option LSpec} (ht : tysB P ts = true) (hm : P.follows .mixedOrders = true) (hf : fnsB P fs = true) (hs : FTolds P ss)
    (d f : Nat) (args res : List DS) (hp : args.all DS.noPtr = true) (G : DS.dens args → Option (DS.dens res)) (hG : ∀ x r, G x = some r → (fnT (ctxOf P ts fs ss loop) d f args res x).den = some r) : FTold P f ⟨args, res, G⟩ :=
  ftold (walked ht hm hf hs.specs d f args res hp G hG)

/-- ftold of the diagonal -/
theorem if_some {α : Type} {p : Prop} [Decidable p] {a r : α} (h : (if p then some a else none) = some r) : p ∧ a = r := by
  split at h
  · exact ⟨by assumption, Option.some.inj h⟩
  · cases h
end Go.Ab
