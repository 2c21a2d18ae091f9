/-
  The library's doors on floats' bits: told where it can be (a NaN's bits are not).
-/
import Derived.Test.YtgmjoehnkannkaaAbCtx
import Derived.Laws.Externs
namespace Go.Ab
open Go.RowKit

def fbits (k : FloatKind) (x : Fl k) : Option Int := bif nanB k x.bits then none else some (x.bits : Int)
def ofBits (k : FloatKind) (n : Int) : Option (Fl k) := if n.toNat < 2 ^ k.format.width then some (Fl.of k n.toNat) else none

theorem bits_of_is {k : FloatKind} {x : Fl k} {b : Nat} (h : x.Is b) (hn : nanB k x.bits = false) : b = x.bits := by
  have h' := h
  unfold Fl.Is at h'
  obtain ⟨_, h2⟩ := h'
  unfold canon at h2
  cases hb : nanB k b with
  | false => rw [hb] at h2; exact h2
  | true =>
    rw [hb] at h2
    simp only [cond_true] at h2
    rw [← h2, nan_qn] at hn; cases hn

theorem extern_ok {P : Program} {f : FuncId} {fn : Func} {e : Array Value → Sem Value} (hf : P.funcs[f]? = some fn) (hname : (fn.name == "runtime.NumGoroutine") = false) (hb : fn.body.isNone = true) (hn : Extern.findNext fn = none) (he : Extern.find fn = some e) {s : FSpec}
    (h : ∀ (x : DS.dens s.args) (r : DS.dens s.res), s.F x = some r → ∀ (w : World) (args : Array Value), DReps w s.args x args.toList → ∃ u, (e args).run P w = .ok u w ∧ ∃ bl : List Nat, bl.Nodup ∧ DOutV w w.heap.size s.res r u bl) : SpecOk' P f s := by
  intro x r hx w args ha
  obtain ⟨u, h1, h2⟩ := h x r hx w args ha
  unfold CallOr
  rw [run_callFunc_extern hf hname hb hn he args w, h1]
  exact ⟨Below.refl _ _, h2⟩

theorem one_arg {args : Array Value} {v : Value} (h : args.toList = [v]) : args = #[v] := Array.ext' h

theorem out_one {w : World} {base : Nat} {d : DS} {r : d.den} {u : Value} (h : DOut w base d r u []) : ∃ bl : List Nat, bl.Nodup ∧ DOutV w base [d] r u bl :=
  ⟨[], List.nodup_nil, [u], ⟨u, rfl, h⟩, .inl ⟨u, rfl, rfl⟩⟩

def bits64S : FSpec := ⟨[.flt .f64], [.int .u64], fbits .f64⟩
def from64S : FSpec := ⟨[.int .u64], [.flt .f64], ofBits .f64⟩
def bits32S : FSpec := ⟨[.flt .f32], [.int .u32], fbits .f32⟩
def from32S : FSpec := ⟨[.int .u32], [.flt .f32], ofBits .f32⟩

section
variable {P : Program} {f : FuncId} {fn : Func} (hf : P.funcs[f]? = some fn) (hname : (fn.name == "runtime.NumGoroutine") = false) (hb : fn.body.isNone = true) (hn : Extern.findNext fn = none)
include hf hname hb hn

theorem bits64_ok (he : Extern.find fn = some Extern.MathFloatBits.float64bits) : SpecOk' P f bits64S := by
  refine extern_ok hf hname hb hn he fun x r hx w args ⟨v, ha, b, hxb, hv⟩ => ?_
  subst hv
  have hx' : fbits .f64 x = some r := hx
  unfold fbits at hx'
  cases hnb : nanB .f64 x.bits with
  | true => rw [hnb] at hx'; cases hx'
  | false =>
    rw [hnb] at hx'
    cases hx'
    rw [one_arg ha, bits_of_is hxb hnb]
    exact ⟨_, rfl, out_one ⟨rfl, rfl⟩⟩

theorem bits32_ok (he : Extern.find fn = some Extern.MathFloatBits.float32bits) : SpecOk' P f bits32S := by
  refine extern_ok hf hname hb hn he fun x r hx w args ⟨v, ha, b, hxb, hv⟩ => ?_
  subst hv
  have hx' : fbits .f32 x = some r := hx
  unfold fbits at hx'
  cases hnb : nanB .f32 x.bits with
  | true => rw [hnb] at hx'; cases hx'
  | false =>
    rw [hnb] at hx'
    cases hx'
    rw [one_arg ha, bits_of_is hxb hnb]
    exact ⟨_, rfl, out_one ⟨rfl, rfl⟩⟩

theorem from64_ok (he : Extern.find fn = some Extern.MathFloatBits.float64frombits) : SpecOk' P f from64S := by
  refine extern_ok hf hname hb hn he fun x r hx w args ⟨v, ha, hv⟩ => ?_
  have hv' : v = .int .u64 x := hv
  subst hv'
  have hx' : ofBits .f64 x = some r := hx
  unfold ofBits at hx'
  split at hx'
  · rename_i hlt
    cases hx'
    rw [one_arg ha]
    exact ⟨_, rfl, out_one ⟨⟨_, Fl.is_of hlt, rfl⟩, rfl⟩⟩
  · cases hx'

theorem from32_ok (he : Extern.find fn = some Extern.MathFloatBits.float32frombits) : SpecOk' P f from32S := by
  refine extern_ok hf hname hb hn he fun x r hx w args ⟨v, ha, hv⟩ => ?_
  have hv' : v = .int .u32 x := hv
  subst hv'
  have hx' : ofBits .f32 x = some r := hx
  unfold ofBits at hx'
  split at hx'
  · rename_i hlt
    cases hx'
    rw [one_arg ha]
    exact ⟨_, rfl, out_one ⟨⟨_, Fl.is_of hlt, rfl⟩, rfl⟩⟩
  · cases hx'
end
end Go.Ab
