/- The program's SameProgram answers as the reference's does, at all arguments. No condition. -/
import Derived.Test.YthikgdgnfhafaaaR1C
import Derived.Test.YthikgdgnfhafaaaAbSame2
namespace Go.Proofs.Ythikgdgnfhafaaa
open Go.Ab
theorem ext73 : SpecOk' Try.prog 73 bits32S := bits32_ok (fn := Try.f73) rfl rfl rfl rfl rfl
abbrev F32 : DS := .flt .f32
abbrev L32 : DS := .list (.flt .f32)
def noLoop (_ _ _ : Nat) : Option LSpec := none

def sameS : FSpec := ⟨[F32, F32], [.bool], fun x => some (sameF x.1 x.2)⟩
def ss0 : List (Nat × FSpec) := [(33, finS), (59, from64S), (74, bits64S), (73, bits32S)]
theorem ss0Ok : SpecsOk Try.prog ss0 := ⟨s33, ext59, ext74, ext73, trivial⟩
noncomputable def Γ0 : Ctx := ctxOf Try.prog tys fs ss0 noLoop
theorem e62 (x y : Fl .f32) : (fnT Γ0 10 62 [F32, F32] [.bool] (x, y)).den = some (sameF x y) := by
  have e : (fnT Γ0 10 62 [F32, F32] [.bool] (x, y)).den = (bif fne x x then (bif fne y y then (some true) else (Option.bind (fbits .f32 y) fun r0 => (some ((2143289344 : Int) == IntKind.i64.wrap r0)))) else (Option.bind (fbits .f32 x) fun r1 => (bif fne y y then (some (IntKind.i64.wrap r1 == (2143289344 : Int))) else (Option.bind (fbits .f32 y) fun r2 => (some (IntKind.i64.wrap r1 == IntKind.i64.wrap r2)))))) := by kernel_rfl
  exact e.trans (same_tree1 x y)
theorem e64 (x y : Fl .f32) : (fnT Γ0 10 64 [F32, F32] [.bool] (x, y)).den = some (sameF x y) := by
  have e : (fnT Γ0 10 64 [F32, F32] [.bool] (x, y)).den = (bif fne x x then (bif fne x x then (some (fne y y)) else (some false)) else (bif fne y y then (bif fne x x then (some (fne y y)) else (some false)) else (bif feq x y then (Option.bind (fbits .f64 (fwide x)) fun r0 => (Option.bind (fbits .f64 (fwide y)) fun r1 => (some (decide (IntKind.i64.wrap r0 < 0) == decide (IntKind.i64.wrap r1 < 0))))) else (some false)))) := by kernel_rfl
  exact e.trans (same_tree2 x y)
theorem s62 : SpecOk' Try.prog 62 sameS := walked (fs := fs) (ss := ss0) (loop := noLoop) tysOk mixed fnsOk ss0Ok 10 62 [F32, F32] [.bool] rfl _ fun (x, y) _ h => (e62 x y).trans h
theorem s64 : SpecOk' Try.prog 64 sameS := walked (fs := fs) (ss := ss0) (loop := noLoop) tysOk mixed fnsOk ss0Ok 10 64 [F32, F32] [.bool] rfl _ fun (x, y) _ h => (e64 x y).trans h

def selfS : FSpec := ⟨[.flt .f64, .flt .f64], [.bool], fun x => if x.1 = x.2 then some true else none⟩
theorem e15 (x : Fl .f64) : (fnT Γ0 10 15 [.flt .f64, .flt .f64] [.bool] (x, x)).den = some true := by
  have e : (fnT Γ0 10 15 [.flt .f64, .flt .f64] [.bool] (x, x)).den = (bif fne x x then (bif fne x x then (some (fne x x)) else (some false)) else (bif fne x x then (bif fne x x then (some (fne x x)) else (some false)) else (bif feq x (Fl.of .f64 0) then (bif feq x (Fl.of .f64 0) then (some (fgt (fdiv (Fl.of .f64 4607182418800017408) x) (Fl.of .f64 0) == fgt (fdiv (Fl.of .f64 4607182418800017408) x) (Fl.of .f64 0))) else (some (feq x x))) else (some (feq x x))))) := by kernel_rfl
  exact e.trans (self_tree x _ _)
theorem s15 : SpecOk' Try.prog 15 selfS := walked (fs := fs) (ss := ss0) (loop := noLoop) tysOk mixed fnsOk ss0Ok 10 15 [.flt .f64, .flt .f64] [.bool] rfl _ fun (x, y) r h => by
  have h' : (if x = y then some true else none) = some r := h
  split at h'
  · rename_i e
    subst e
    exact (e15 x).trans h'
  · cases h'

/-! ### lists -/
def L43 : LSpec := ⟨[0, 1, 5], ⟨(.cons (.slc 2) (.cons (.slc 3) (.cons .top (.cons .top (.cons .top (.cons (.int .i64) (.cons .top (.cons .top (.cons .top (.cons .top (.cons .top (.cons .top (.cons .top (.cons .top (.cons .top (.cons .top (.cons .top (.cons .top (.cons .top (.cons .top (.cons .top (.cons .top (.cons .top (.cons .top (.cons .top (.cons .top (.cons .top .nil))))))))))))))))))))))))))), [(2, .arr false (.flt .f32)), (3, .arr false (.flt .f32))]⟩, [⟨.ext 0, [], ⟨(.cons .top (.cons .top (.cons .top (.cons .top (.cons .top (.cons .top (.cons .top (.cons .top (.cons .top (.cons .top (.cons .top (.cons .top (.cons .top (.cons .top (.cons .top (.cons .top (.cons .top (.cons .top (.cons .top (.cons .top (.cons .top (.cons .top (.cons .top (.cons .top (.cons .top (.cons .top (.cons .top .nil))))))))))))))))))))))))))), [(2, .arr false (.flt .f32)), (3, .arr false (.flt .f32))]⟩⟩, ⟨.ret, [4], ⟨(.cons .top (.cons .top (.cons .top (.cons .top (.cons .bool (.cons .top (.cons .top (.cons .top (.cons .top (.cons .top (.cons .top (.cons .top (.cons .top (.cons .top (.cons .top (.cons .top (.cons .top (.cons .top (.cons .top (.cons .top (.cons .top (.cons .top (.cons .top (.cons .top (.cons .top (.cons .top (.cons .top .nil))))))))))))))))))))))))))), [(2, .arr false (.flt .f32)), (3, .arr false (.flt .f32))]⟩⟩], fun x => x.1.1 + 1⟩
def L63 : LSpec := ⟨[1, 2, 15, 16, 17], ⟨(.cons .top (.cons (.slc 3) (.cons (.fn (.func 64) .nil .nil) (.cons .top (.cons .top (.cons .top (.cons .top (.cons .top (.cons .top (.cons .top (.cons .top (.cons .top (.cons .top (.cons .top (.cons .top (.cons (.slc 2) (.cons (.int .i64) (.cons (.int .i64) (.cons .top (.cons .top (.cons .top (.cons .top (.cons .top (.cons .top (.cons .top (.cons .top (.cons .top (.cons .top (.cons .top (.cons .top (.cons .top (.cons .top .nil)))))))))))))))))))))))))))))))), [(2, .arr false (.flt .f32)), (3, .arr false (.flt .f32))]⟩, [⟨.ext 0, [], ⟨(.cons .top (.cons .top (.cons .top (.cons .top (.cons .top (.cons .top (.cons .top (.cons .top (.cons .top (.cons .top (.cons .top (.cons .top (.cons .top (.cons .top (.cons .top (.cons .top (.cons .top (.cons .top (.cons .top (.cons .top (.cons .top (.cons .top (.cons .top (.cons .top (.cons .top (.cons .top (.cons .top (.cons .top (.cons .top (.cons .top (.cons .top (.cons .top .nil)))))))))))))))))))))))))))))))), [(2, .arr false (.flt .f32)), (3, .arr false (.flt .f32))]⟩⟩, ⟨.ret, [6], ⟨(.cons .top (.cons .top (.cons .top (.cons .top (.cons .top (.cons .top (.cons .bool (.cons .top (.cons .top (.cons .top (.cons .top (.cons .top (.cons .top (.cons .top (.cons .top (.cons .top (.cons .top (.cons .top (.cons .top (.cons .top (.cons .top (.cons .top (.cons .top (.cons .top (.cons .top (.cons .top (.cons .top (.cons .top (.cons .top (.cons .top (.cons .top (.cons .top .nil)))))))))))))))))))))))))))))))), [(2, .arr false (.flt .f32)), (3, .arr false (.flt .f32))]⟩⟩], fun x => x.1.2.2.1 + 1⟩
def L44 : LSpec := ⟨[0, 3, 4], ⟨(.cons (.slc 2) (.cons .top (.cons .top (.cons (.slc 2146435264) (.cons (.int .i64) (.cons .top (.cons .top (.cons .top (.cons .top (.cons .top (.cons .top (.cons .top (.cons .top (.cons .top (.cons .top (.cons .top (.cons .top (.cons .top (.cons .top (.cons .top (.cons .top (.cons .top .nil)))))))))))))))))))))), [(2, .arr false (.flt .f32)), (2146435264, .arr true (.flt .f32))]⟩, [⟨.ext 0, [3], ⟨(.cons .top (.cons .top (.cons .top (.cons (.slc 2146435264) (.cons .top (.cons .top (.cons .top (.cons .top (.cons .top (.cons .top (.cons .top (.cons .top (.cons .top (.cons .top (.cons .top (.cons .top (.cons .top (.cons .top (.cons .top (.cons .top (.cons .top (.cons .top .nil)))))))))))))))))))))), [(2, .arr false (.flt .f32)), (2146435264, .arr true (.flt .f32))]⟩⟩], fun x => x.1.1 + 1⟩
def loops (f _ _ : Nat) : Option LSpec := bif Nat.beq f 43 then some L43 else bif Nat.beq f 63 then some L63 else bif Nat.beq f 44 then some L44 else none
def ss1 : List (Nat × FSpec) := [(33, finS), (62, sameS), (64, sameS), (15, selfS)]
theorem ss1Ok : SpecsOk Try.prog ss1 := ⟨s33, s62, s64, s15, trivial⟩
noncomputable def Γ1 : Ctx := ctxOf Try.prog tys fs ss1 loops
abbrev dN : Fl .f32 := Fl.nan .f32

abbrev St43 := (Nat × (Nat × (Int × Unit))) × (List (Fl .f32) × (List (Fl .f32) × Unit))
abbrev Out43 := (Unit × (List (Fl .f32) × (List (Fl .f32) × Unit))) ⊕ ((Bool × Unit) × (List (Fl .f32) × (List (Fl .f32) × Unit)))
def B43 (y : St43) : Option (St43 ⊕ Out43) :=
  bif decide (y.1.2.2.1 < (y.1.1 : Int)) then (bif inB y.1.2.2.1 y.1.1 then (bif inB y.1.2.2.1 y.1.2.1 then (Option.bind (some (sameF (List.getD y.2.1 (0 + Int.toNat y.1.2.2.1) dN) (List.getD y.2.2.1 (0 + Int.toNat y.1.2.2.1) dN))) fun r1 => (bif !r1 then (some (.inr (.inr ((false, ()), (y.2.1, (y.2.2.1, ())))))) else (some (.inl ((y.1.1, (y.1.2.1, (IntKind.i64.wrap (y.1.2.2.1 + 1), ()))), (y.2.1, (y.2.2.1, ()))))))) else none) else none) else (some (.inr (.inl ((), (y.2.1, (y.2.2.1, ()))))))
theorem e43' (l m : List (Fl .f32)) : (fnT Γ1 10 43 [L32, L32] [.bool] (l, m)).den = (bif (l.length : Int) != (m.length : Int) then (some false) else (Option.bind (iter B43 (l.length + 1) ((l.length, (m.length, (0, ()))), (l, (m, ())))) fun r0 => (match r0 with | .inl _ => (some true) | .inr x2 => (some (x2.1.1))))) := by kernel_rfl

abbrev St63 := (Nat × ((Unit × Unit) × (Nat × (Int × (Int × Unit))))) × (List (Fl .f32) × (List (Fl .f32) × Unit))
def B63 (y : St63) : Option (St63 ⊕ Out43) :=
  bif decide (y.1.2.2.2.2.1 < y.1.2.2.2.1) then (bif inB y.1.2.2.2.2.1 y.1.2.2.1 then (bif inB y.1.2.2.2.2.1 y.1.1 then (Option.bind (some (sameF (List.getD y.2.1 (0 + Int.toNat y.1.2.2.2.2.1) dN) (List.getD y.2.2.1 (0 + Int.toNat y.1.2.2.2.2.1) dN))) fun r1 => (bif !r1 then (some (.inr (.inr ((false, ()), (y.2.1, (y.2.2.1, ())))))) else (some (.inl ((y.1.1, (((), ()), (y.1.2.2.1, (y.1.2.2.2.1, (IntKind.i64.wrap (y.1.2.2.2.2.1 + 1), ()))))), (y.2.1, (y.2.2.1, ()))))))) else none) else none) else (some (.inr (.inl ((), (y.2.1, (y.2.2.1, ()))))))
theorem e45' (l m : List (Fl .f32)) : (fnT Γ1 10 45 [L32, L32] [.bool] (l, m)).den = (bif (l.length : Int) != (m.length : Int) then (some false) else (Option.bind (iter B63 (l.length + 1) ((m.length, (((), ()), (l.length, ((l.length : Int), (0, ()))))), (l, (m, ())))) fun r0 => (match r0 with | .inl _ => (some true) | .inr x2 => (some (x2.1.1))))) := by kernel_rfl
theorem e44' (l : List (Fl .f32)) : (fnT Γ1 10 44 [L32] [L32] l).den = (bif decide ((0 : Int) ≤ (l.length : Int)) && decide ((4 : Int) * (l.length : Int) ≤ (maxB : Int)) then (Option.bind (iter (copyB dN) (l.length + 1) ((l.length, ((l.length : Int).toNat, (0, ()))), (l, (List.replicate (l.length : Int).toNat (Fl.of .f32 0), ())))) fun r0 => (some (sub r0.2.2.1 0 r0.1.1))) else none) := by kernel_rfl

abbrev stopD (l m : List (Fl .f32)) (i : Nat) : Option Out43 := if l.getD i dN = m.getD i dN then none else some (.inr ((false, ()), (l, (m, ()))))
theorem end_same (l m : List (Fl .f32)) (h : l.length = m.length) : Option.bind (some ((firstOf (stopD l m) l.length 0).getD (.inl ((), (l, (m, ())))))) (fun r0 : Out43 => (match r0 with | .inl _ => (some true) | .inr x2 => (some (x2.1.1)))) = some (decide (l = m)) := by
  rw [show firstOf (stopD l m) l.length 0 = _ from lists_same dN l m h _]
  by_cases e : l = m
  · rw [if_pos e]; simp [e]
  · rw [if_neg e]; simp [e]
theorem e43 (l m : List (Fl .f32)) (hb : l.length < 2 ^ 62) : (fnT Γ1 10 43 [L32, L32] [.bool] (l, m)).den = some (decide (l = m)) := by
  rw [e43']
  by_cases h : l.length = m.length
  · have h0 : ((l.length : Int) != (m.length : Int)) = false := by simp [h]
    rw [h0, cond_false]
    have key := iter_find B43 (fun i => ((l.length, (m.length, ((i : Int), ()))), (l, (m, ())))) l.length (stopD l m) (.inl ((), (l, (m, ())))) (fun i hi => by
      have h1 : decide ((i : Int) < (l.length : Int)) = true := by simp; omega
      have h2 := inB_of hi
      have h3 : inB (i : Int) m.length = true := inB_of (by omega)
      have h4 : IntKind.i64.wrap ((i : Int) + 1) = ((i + 1 : Nat) : Int) := by rw [wrap64 (by omega) (by omega)]; rfl
      unfold B43 stopD
      simp only [h1, h2, h3, h4, cond_true, Int.toNat_natCast, Nat.zero_add, Option.bind_some, sameF]
      by_cases e : l.getD i dN = m.getD i dN
      · rw [if_pos e, decide_eq_true e]; rfl
      · rw [if_neg e, decide_eq_false e]; rfl) (by
      have h1 : decide ((l.length : Int) < (l.length : Int)) = false := by simp
      unfold B43
      simp only [h1, cond_false]) l.length 0 (Nat.zero_add _)
    exact (congrArg (fun z => Option.bind z _) key).trans (end_same l m h)
  · have h0 : ((l.length : Int) != (m.length : Int)) = true := by simp; omega
    have hne : ¬ l = m := fun e => h (by rw [e])
    rw [h0, cond_true]; simp [hne]
theorem e45 (l m : List (Fl .f32)) (hb : l.length < 2 ^ 62) : (fnT Γ1 10 45 [L32, L32] [.bool] (l, m)).den = some (decide (l = m)) := by
  rw [e45']
  by_cases h : l.length = m.length
  · have h0 : ((l.length : Int) != (m.length : Int)) = false := by simp [h]
    rw [h0, cond_false]
    have key := iter_find B63 (fun i => ((m.length, (((), ()), (l.length, ((l.length : Int), ((i : Int), ()))))), (l, (m, ())))) l.length (stopD l m) (.inl ((), (l, (m, ())))) (fun i hi => by
      have h1 : decide ((i : Int) < (l.length : Int)) = true := by simp; omega
      have h2 := inB_of hi
      have h3 : inB (i : Int) m.length = true := inB_of (by omega)
      have h4 : IntKind.i64.wrap ((i : Int) + 1) = ((i + 1 : Nat) : Int) := by rw [wrap64 (by omega) (by omega)]; rfl
      unfold B63 stopD
      simp only [h1, h2, h3, h4, cond_true, Int.toNat_natCast, Nat.zero_add, Option.bind_some, sameF]
      by_cases e : l.getD i dN = m.getD i dN
      · rw [if_pos e, decide_eq_true e]; rfl
      · rw [if_neg e, decide_eq_false e]; rfl) (by
      have h1 : decide ((l.length : Int) < (l.length : Int)) = false := by simp
      unfold B63
      simp only [h1, cond_false]) l.length 0 (Nat.zero_add _)
    exact (congrArg (fun z => Option.bind z _) key).trans (end_same l m h)
  · have h0 : ((l.length : Int) != (m.length : Int)) = true := by simp; omega
    have hne : ¬ l = m := fun e => h (by rw [e])
    rw [h0, cond_true]; simp [hne]
theorem e44 (l : List (Fl .f32)) (hb : l.length ≤ 2 ^ 40) : (fnT Γ1 10 44 [L32] [L32] l).den = some l := by
  rw [e44']
  have hm : (maxB : Int) = 140737488355328 := maxB_eq
  have h1 : decide ((0 : Int) ≤ (l.length : Int)) = true := by simp
  have h2 : decide ((4 : Int) * (l.length : Int) ≤ (maxB : Int)) = true := by rw [hm]; simp; omega
  rw [h1, h2]
  have key := copy_loop dN l (by omega) l.length 0 (List.replicate l.length (Fl.of .f32 0)) (Nat.zero_add _) (by simp) (by simp)
  simp only [Int.toNat_natCast, Bool.and_self, cond_true]
  refine (congrArg (fun z => Option.bind z _) key).trans ?_
  simp [sub]
def eqS : FSpec := ⟨[L32, L32], [.bool], fun x => if x.1.length < 2 ^ 62 then some (decide (x.1 = x.2)) else none⟩
def copyS : FSpec := ⟨[L32], [L32], fun x => if x.length ≤ 2 ^ 40 then some x else none⟩
theorem s43 : SpecOk' Try.prog 43 eqS := walked (fs := fs) (ss := ss1) (loop := loops) tysOk mixed fnsOk ss1Ok 10 43 [L32, L32] [.bool] rfl _ fun (x, y) r h => by
  have h' : (if x.length < 2 ^ 62 then some (decide (x = y)) else none) = some r := h
  split at h'
  · rename_i hb; exact (e43 x y hb).trans h'
  · cases h'
theorem s45 : SpecOk' Try.prog 45 eqS := walked (fs := fs) (ss := ss1) (loop := loops) tysOk mixed fnsOk ss1Ok 10 45 [L32, L32] [.bool] rfl _ fun (x, y) r h => by
  have h' : (if x.length < 2 ^ 62 then some (decide (x = y)) else none) = some r := h
  split at h'
  · rename_i hb; exact (e45 x y hb).trans h'
  · cases h'
theorem s44 : SpecOk' Try.prog 44 copyS := walked (fs := fs) (ss := ss1) (loop := loops) tysOk mixed fnsOk ss1Ok 10 44 [L32] [L32] rfl _ fun x r h => by
  have h' : (if x.length ≤ 2 ^ 40 then some x else none) = some r := h
  split at h'
  · rename_i hb; exact (e44 x hb).trans h'
  · cases h'
end Go.Proofs.Ythikgdgnfhafaaa
