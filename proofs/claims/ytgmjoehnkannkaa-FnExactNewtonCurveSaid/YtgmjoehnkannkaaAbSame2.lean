/-
  The same number, as both sides ask for it; and what a statement's own comparison says of a number and itself.
-/
import Derived.Test.YtgmjoehnkannkaaAbSame
namespace Go.Ab

def sameF (x y : Fl .f32) : Bool := decide (x = y)

theorem fbits_some {k : FloatKind} {x : Fl k} (h : x.isNaN = false) : fbits k x = some (x.bits : Int) := by
  have h' : nanB k x.bits = false := h
  unfold fbits; rw [h']; rfl

theorem wrap_bits (x : Fl .f32) : IntKind.i64.wrap (x.bits : Int) = (x.bits : Int) := by
  have hl : x.bits < 2 ^ 32 := x.lt
  exact wrap64 (by omega) (by omega)

theorem qn_ne {x : Fl .f32} (h : x.isNaN = false) : x.bits ≠ 2143289344 := by
  intro e
  have h' : nanB .f32 x.bits = false := h
  rw [e] at h'
  have := nan_qn .f32
  exact absurd (h'.symm.trans this) Bool.false_ne_true

theorem same_tree1 (x y : Fl .f32) : (bif fne x x then (bif fne y y then (some true) else (Option.bind (fbits .f32 y) fun r0 => (some ((2143289344 : Int) == IntKind.i64.wrap r0)))) else (Option.bind (fbits .f32 x) fun r1 => (bif fne y y then (some (IntKind.i64.wrap r1 == (2143289344 : Int))) else (Option.bind (fbits .f32 y) fun r2 => (some (IntKind.i64.wrap r1 == IntKind.i64.wrap r2)))))) = some (sameF x y) := by
  rw [fne_self, fne_self]
  unfold sameF
  cases hx : x.isNaN with
  | true =>
    have ex := nan_only hx
    cases hy : y.isNaN with
    | true =>
      have ey := nan_only hy
      subst ex ey; simp
    | false =>
      have hne : ¬ x = y := fun e => by subst e; rw [hx] at hy; cases hy
      have h1 := qn_ne hy
      have h2 : ¬ (2143289344 : Int) = (y.bits : Int) := fun e => h1 (by omega)
      simp [fbits_some hy, wrap_bits, hne, h2]
  | false =>
    rw [fbits_some hx]
    cases hy : y.isNaN with
    | true =>
      have hne : ¬ x = y := fun e => by subst e; rw [hx] at hy; cases hy
      have h1 := qn_ne hx
      have h2 : ¬ (x.bits : Int) = 2143289344 := fun e => h1 (by omega)
      simp [wrap_bits, hne, h2]
    | false =>
      rw [fbits_some hy]
      simp only [cond_false, Option.bind_some, wrap_bits]
      by_cases e : x = y
      · subst e; simp
      · have h2 : ¬ (x.bits : Int) = (y.bits : Int) := fun h => e (Fl.ext (by omega))
        simp [e, h2]

theorem same_tree2 (x y : Fl .f32) : (bif fne x x then (bif fne x x then (some (fne y y)) else (some false)) else (bif fne y y then (bif fne x x then (some (fne y y)) else (some false)) else (bif feq x y then (Option.bind (fbits .f64 (fwide x)) fun r0 => (Option.bind (fbits .f64 (fwide y)) fun r1 => (some (decide (IntKind.i64.wrap r0 < 0) == decide (IntKind.i64.wrap r1 < 0))))) else (some false)))) = some (sameF x y) := by
  rw [fne_self, fne_self]
  unfold sameF
  cases hx : x.isNaN with
  | true =>
    have ex := nan_only hx
    cases hy : y.isNaN with
    | true =>
      have ey := nan_only hy
      subst ex ey; simp
    | false =>
      have hne : ¬ x = y := fun e => by subst e; rw [hx] at hy; cases hy
      simp [hne]
  | false =>
    cases hy : y.isNaN with
    | true =>
      have hne : ¬ x = y := fun e => by subst e; rw [hx] at hy; cases hy
      simp [hne]
    | false =>
      obtain ⟨sx, nx⟩ := sgn_wide hx
      obtain ⟨sy, ny⟩ := sgn_wide hy
      rw [fbits_some nx, fbits_some ny]
      simp only [cond_false, Option.bind_some, wrap_sign, sx, sy]
      cases hf : feq x y with
      | false =>
        have hne : ¬ x = y := fun e => by subst e; rw [feq_self, hx] at hf; cases hf
        simp [hne]
      | true =>
        by_cases e : x = y
        · subst e; simp
        · have : ¬ sgn x = sgn y := fun h => e (same_of_feq hf h)
          simp [e, this]

theorem self_tree {k : FloatKind} (x one zero : Fl k) : (bif fne x x then (bif fne x x then (some (fne x x)) else (some false)) else (bif fne x x then (bif fne x x then (some (fne x x)) else (some false)) else (bif feq x zero then (bif feq x zero then (some (fgt (fdiv one x) zero == fgt (fdiv one x) zero)) else (some (feq x x))) else (some (feq x x))))) = some true := by
  rw [fne_self, feq_self]
  cases x.isNaN <;> cases feq x zero <;> simp
end Go.Ab
