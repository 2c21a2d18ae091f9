/-
  Tables of what functions do.
-/
import Derived.Test.YtgmjoehnkannkaaAbFin
namespace Go.Ab

def SpecsOk (P : Program) : List (Nat × FSpec) → Prop
  | [] => True
  | (f, s) :: r => SpecOk' P f s ∧ SpecsOk P r

theorem SpecsOk.get {P : Program} : ∀ {l : List (Nat × FSpec)}, SpecsOk P l → ∀ f s, look l f = some s → SpecOk' P f s
  | [], _, _, _, h => by cases h
  | (g, t) :: r, hl, f, s, h => by
    unfold look at h
    cases hb : Nat.beq g f with
    | true =>
      rw [hb] at h
      cases h
      rw [← Nat.eq_of_beq_eq_true hb]
      exact hl.1
    | false => rw [hb] at h; exact SpecsOk.get hl.2 f s h

/-- told less, told rightly -/
theorem SpecOk'.of {P : Program} {f : Nat} {args res : List DS} {F G : DS.dens args → Option (DS.dens res)} (h : SpecOk' P f ⟨args, res, F⟩) (hg : ∀ x r, G x = some r → F x = some r) : SpecOk' P f ⟨args, res, G⟩ :=
  fun x r hx w vs hv => h x r (hg x r hx) w vs hv

/-- a table, the functions that are walked, what is known of others -/
def ctxOf (P : Program) (ts : List (Nat × TyI)) (fs : List Nat) (ss : List (Nat × FSpec)) (loop : Nat → Nat → Nat → Option LSpec) : Ctx := ⟨look ts, fnsOf P fs, look ss, loop⟩

theorem ctxOf_ok {P : Program} {ts : List (Nat × TyI)} {fs : List Nat} {ss : List (Nat × FSpec)} {loop : Nat → Nat → Nat → Option LSpec} (ht : tysB P ts = true) (hm : P.follows .mixedOrders = true) (hs : SpecsOk P ss) : CtxOk P (ctxOf P ts fs ss loop) :=
  ctxOk_of (l := fs) (ts := ts) rfl rfl ht hm hs.get

theorem ctxOf_fns {P : Program} {ts : List (Nat × TyI)} {fs : List Nat} {ss : List (Nat × FSpec)} {loop : Nat → Nat → Nat → Option LSpec} (hf : fnsB P fs = true) : FnsOk (ctxOf P ts fs ss loop) := fnsOk_of (l := fs) rfl hf

/-- A function's telling, from its walk. -/
theorem walked {P : Program} {ts : List (Nat × TyI)} {fs : List Nat} {ss : List (Nat × FSpec)} {loop : Nat → Nat → Nat → Option LSpec} (ht : tysB P ts = true) (hm : P.follows .mixedOrders = true) (hf : fnsB P fs = true) (hs : SpecsOk P ss)
    (d f : Nat) (args res : List DS) (hp : args.all DS.noPtr = true) (G : DS.dens args → Option (DS.dens res)) (hG : ∀ x r, G x = some r → (fnT (ctxOf P ts fs ss loop) d f args res x).den = some r) : SpecOk' P f ⟨args, res, G⟩ :=
  SpecOk'.of (fnF_ok (ctxOf_ok ht hm hs) (ctxOf_fns hf) d f args res hp) hG
end Go.Ab
