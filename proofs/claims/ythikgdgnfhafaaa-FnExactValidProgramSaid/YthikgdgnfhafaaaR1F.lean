/- The program's ValidProgram answers as the reference's does, at all arguments. No condition. -/
import Derived.Test.YthikgdgnfhafaaaR1E
namespace Go.Proofs.Ythikgdgnfhafaaa
open Go.Ab
def notFinS : FSpec := ⟨[F32], [.bool], fun x => some (!fin x)⟩
def ssA : List (Nat × FSpec) := [(33, finS)]
theorem ssAOk : SpecsOk Try.prog ssA := ⟨s33, trivial⟩
noncomputable def ΓA : Ctx := ctxOf Try.prog tys fs ssA noLoop
theorem e66 (x : Fl .f32) : (fnT ΓA 10 66 [F32] [.bool] x).den = some (!fin x) := by kernel_rfl
theorem s66 : SpecOk' Try.prog 66 notFinS := walked (fs := fs) (ss := ssA) (loop := noLoop) tysOk mixed fnsOk ssAOk 10 66 [F32] [.bool] rfl _ fun x _ h => (e66 x).trans h
def L71 : LSpec := ⟨[0, 1, 7, 8], ⟨(.cons (.slc 2) (.cons (.fn (.func 66) .nil .nil) (.cons .top (.cons .top (.cons .top (.cons .top (.cons .top (.cons (.int .i64) (.cons (.int .i64) (.cons .top (.cons .top (.cons .top (.cons .top (.cons .top (.cons .top (.cons .top (.cons .top (.cons .top (.cons .top .nil))))))))))))))))))), [(2, .arr false (.flt .f32))]⟩, [⟨.ext 0, [], ⟨(.cons .top (.cons .top (.cons .top (.cons .top (.cons .top (.cons .top (.cons .top (.cons .top (.cons .top (.cons .top (.cons .top (.cons .top (.cons .top (.cons .top (.cons .top (.cons .top (.cons .top (.cons .top (.cons .top .nil))))))))))))))))))), [(2, .arr false (.flt .f32))]⟩⟩, ⟨.ret, [4], ⟨(.cons .top (.cons .top (.cons .top (.cons .top (.cons (.int .i64) (.cons .top (.cons .top (.cons .top (.cons .top (.cons .top (.cons .top (.cons .top (.cons .top (.cons .top (.cons .top (.cons .top (.cons .top (.cons .top (.cons .top .nil))))))))))))))))))), [(2, .arr false (.flt .f32))]⟩⟩], fun x => x.1.1 + 1⟩
def loopsB (f _ _ : Nat) : Option LSpec := bif Nat.beq f 71 then some L71 else none
def ssB : List (Nat × FSpec) := [(66, notFinS)]
theorem ssBOk : SpecsOk Try.prog ssB := ⟨s66, trivial⟩
noncomputable def ΓB : Ctx := ctxOf Try.prog tys fs ssB loopsB

abbrev St71 := (Nat × ((Unit × Unit) × (Int × (Int × Unit)))) × (List (Fl .f32) × Unit)
abbrev Out71 := (Unit × (List (Fl .f32) × Unit)) ⊕ ((Int × Unit) × (List (Fl .f32) × Unit))
def B71 (y : St71) : Option (St71 ⊕ Out71) :=
  bif decide (y.1.2.2.2.1 < y.1.2.2.1) then (bif inB y.1.2.2.2.1 y.1.1 then (Option.bind (some (!fin (List.getD y.2.1 (0 + Int.toNat y.1.2.2.2.1) dN))) fun (r1 : Bool) => (bif r1 then (some (.inr (.inr ((y.1.2.2.2.1, ()), (y.2.1, ()))))) else (some (.inl ((y.1.1, (((), ()), (y.1.2.2.1, (IntKind.i64.wrap (y.1.2.2.2.1 + 1), ())))), (y.2.1, ())))))) else none) else (some (.inr (.inl ((), (y.2.1, ())))))
theorem e48' (l : List (Fl .f32)) : (fnT ΓB 10 48 [L32] [.bool] l).den = Option.bind (iter B71 (l.length + 1) ((l.length, (((), ()), ((l.length : Int), (0, ())))), (l, ()))) fun r0 => (match r0 with | .inl _ => (some true) | .inr x2 => (some (!decide (x2.1.1 ≥ 0)))) := by kernel_rfl
abbrev stopF (l : List (Fl .f32)) (i : Nat) : Option Out71 := if fin (l.getD i dN) = true then none else some (.inr (((i : Int), ()), (l, ())))
theorem all_fin (l : List (Fl .f32)) : (firstOf (stopF l) l.length 0 = none ∧ l.all fin = true) ∨ (∃ j : Nat, firstOf (stopF l) l.length 0 = some (.inr (((j : Int), ()), (l, ()))) ∧ l.all fin = false) := by
  cases hf : firstOf (stopF l) l.length 0 with
  | none =>
    refine .inl ⟨rfl, List.all_eq_true.2 fun x hx => ?_⟩
    obtain ⟨j, hj, rfl⟩ := List.getElem_of_mem hx
    have := (firstOf_none _ _ _).1 hf j (Nat.zero_le _) (by omega)
    unfold stopF at this
    split at this
    · rename_i h; simpa [List.getD_eq_getElem?_getD, hj] using h
    · cases this
  | some r =>
    obtain ⟨j, _, hj, hs⟩ := firstOf_some _ _ _ _ hf
    unfold stopF at hs
    split at hs
    · cases hs
    · rename_i h
      cases hs
      refine .inr ⟨j, rfl, ?_⟩
      rw [List.all_eq_false]
      refine ⟨l[j]'(by omega), List.getElem_mem _, ?_⟩
      have hjl : j < l.length := by omega
      simpa [List.getD_eq_getElem?_getD, hjl] using h
theorem e48 (l : List (Fl .f32)) (hb : l.length < 2 ^ 62) : (fnT ΓB 10 48 [L32] [.bool] l).den = some (l.all fin) := by
  rw [e48']
  have key := iter_find B71 (fun i => ((l.length, (((), ()), ((l.length : Int), ((i : Int), ())))), (l, ()))) l.length (stopF l) (.inl ((), (l, ()))) (fun i hi => by
    have h1 : decide ((i : Int) < (l.length : Int)) = true := by simp; omega
    have h2 := inB_of hi
    have h4 : IntKind.i64.wrap ((i : Int) + 1) = ((i + 1 : Nat) : Int) := by rw [wrap64 (by omega) (by omega)]; rfl
    unfold B71 stopF
    simp only [h1, h2, h4, cond_true, Int.toNat_natCast, Nat.zero_add, Option.bind_some]
    by_cases e : fin (l.getD i dN) = true
    · rw [if_pos e, e]; rfl
    · rw [if_neg e, Bool.eq_false_iff.2 e]; rfl) (by
    have h1 : decide ((l.length : Int) < (l.length : Int)) = false := by simp
    unfold B71
    simp only [h1, cond_false]) l.length 0 (Nat.zero_add _)
  refine (congrArg (fun z => Option.bind z _) key).trans ?_
  rcases all_fin l with ⟨h1, h2⟩ | ⟨j, h1, h2⟩
  · rw [h1, h2]; rfl
  · rw [h1, h2]
    show some (!decide ((j : Int) ≥ 0)) = some false
    rw [decide_eq_true (by omega)]; rfl
def allFinS : FSpec := ⟨[L32], [.bool], fun x => if x.length < 2 ^ 62 then some (x.all fin) else none⟩
theorem s48 : SpecOk' Try.prog 48 allFinS := walked (fs := fs) (ss := ssB) (loop := loopsB) tysOk mixed fnsOk ssBOk 10 48 [L32] [.bool] rfl _ fun x r h => by
  have h' : (if List.length x < 2 ^ 62 then some (List.all x fin) else none) = some r := h
  split at h'
  · rename_i hb; exact (e48 x hb).trans h'
  · cases h'

def L29 : LSpec := ⟨[1, 3, 4], ⟨(.cons .top (.cons (.ptr 2146435392 0 0) (.cons .top (.cons (.int .i64) (.cons (.int .i64) (.cons .top (.cons .top (.cons .top (.cons .top (.cons .top (.cons .top (.cons .top (.cons .top (.cons .top (.cons .top (.cons .top (.cons .top (.cons .top (.cons .top (.cons .top (.cons .top (.cons .top (.cons .top (.cons .top (.cons .top (.cons .top (.cons .top (.cons .top (.cons .top (.cons .top (.cons .top (.cons .top (.cons .top (.cons .top (.cons .top (.cons .top (.cons .top (.cons .top (.cons .top (.cons .top (.cons .top (.cons .top (.cons .top (.cons .top (.cons .top (.cons .top (.cons .top (.cons .top (.cons .top (.cons .top (.cons .top (.cons .top (.cons .top (.cons .top (.cons .top (.cons .top .nil)))))))))))))))))))))))))))))))))))))))))))))))))))))))), [(2, .arr false (.flt .f32)), (3, .arr false (.flt .f32)), (2146435392, .vals true (.cons (.slc 2) (.cons (.slc 3) .nil)))]⟩, [⟨.ext 0, [], ⟨(.cons .top (.cons .top (.cons .top (.cons .top (.cons .top (.cons .top (.cons .top (.cons .top (.cons .top (.cons .top (.cons .top (.cons .top (.cons .top (.cons .top (.cons .top (.cons .top (.cons .top (.cons .top (.cons .top (.cons .top (.cons .top (.cons .top (.cons .top (.cons .top (.cons .top (.cons .top (.cons .top (.cons .top (.cons .top (.cons .top (.cons .top (.cons .top (.cons .top (.cons .top (.cons .top (.cons .top (.cons .top (.cons .top (.cons .top (.cons .top (.cons .top (.cons .top (.cons .top (.cons .top (.cons .top (.cons .top (.cons .top (.cons .top (.cons .top (.cons .top (.cons .top (.cons .top (.cons .top (.cons .top (.cons .top (.cons .top .nil)))))))))))))))))))))))))))))))))))))))))))))))))))))))), [(2, .arr false (.flt .f32)), (3, .arr false (.flt .f32))]⟩⟩, ⟨.ret, [2], ⟨(.cons .top (.cons .top (.cons .bool (.cons .top (.cons .top (.cons .top (.cons .top (.cons .top (.cons .top (.cons .top (.cons .top (.cons .top (.cons .top (.cons .top (.cons .top (.cons .top (.cons .top (.cons .top (.cons .top (.cons .top (.cons .top (.cons .top (.cons .top (.cons .top (.cons .top (.cons .top (.cons .top (.cons .top (.cons .top (.cons .top (.cons .top (.cons .top (.cons .top (.cons .top (.cons .top (.cons .top (.cons .top (.cons .top (.cons .top (.cons .top (.cons .top (.cons .top (.cons .top (.cons .top (.cons .top (.cons .top (.cons .top (.cons .top (.cons .top (.cons .top (.cons .top (.cons .top (.cons .top (.cons .top (.cons .top (.cons .top .nil)))))))))))))))))))))))))))))))))))))))))))))))))))))))), [(2, .arr false (.flt .f32)), (3, .arr false (.flt .f32))]⟩⟩], fun x => x.1.1.toNat⟩
def L49 : LSpec := ⟨[0, 39, 40], ⟨(.cons (.ptr 1026 0 0) (.cons .top (.cons .top (.cons .top (.cons .top (.cons .top (.cons .top (.cons .top (.cons .top (.cons .top (.cons .top (.cons .top (.cons .top (.cons .top (.cons .top (.cons .top (.cons .top (.cons .top (.cons .top (.cons .top (.cons .top (.cons .top (.cons .top (.cons .top (.cons .top (.cons .top (.cons .top (.cons .top (.cons .top (.cons .top (.cons .top (.cons .top (.cons .top (.cons .top (.cons .top (.cons .top (.cons .top (.cons .top (.cons .top (.cons (.int .i64) (.cons (.int .i64) (.cons .top (.cons .top (.cons .top (.cons .top (.cons .top (.cons .top (.cons .top (.cons .top (.cons .top (.cons .top (.cons .top (.cons .top (.cons .top (.cons .top (.cons .top (.cons .top (.cons .top (.cons .top (.cons .top (.cons .top (.cons .top (.cons .top (.cons .top (.cons .top (.cons .top (.cons .top (.cons .top (.cons .top (.cons .top (.cons .top (.cons .top (.cons .top (.cons .top (.cons .top (.cons .top (.cons .top (.cons .top (.cons .top (.cons .top (.cons .top (.cons .top (.cons .top (.cons .top (.cons .top (.cons .top (.cons .top .nil))))))))))))))))))))))))))))))))))))))))))))))))))))))))))))))))))))))))))))))))))))))), [(2, .arr false (.flt .f32)), (3, .arr false (.flt .f32)), (1026, .vals true (.cons (.slc 2) (.cons (.slc 3) .nil)))]⟩, [⟨.ext 0, [], ⟨(.cons .top (.cons .top (.cons .top (.cons .top (.cons .top (.cons .top (.cons .top (.cons .top (.cons .top (.cons .top (.cons .top (.cons .top (.cons .top (.cons .top (.cons .top (.cons .top (.cons .top (.cons .top (.cons .top (.cons .top (.cons .top (.cons .top (.cons .top (.cons .top (.cons .top (.cons .top (.cons .top (.cons .top (.cons .top (.cons .top (.cons .top (.cons .top (.cons .top (.cons .top (.cons .top (.cons .top (.cons .top (.cons .top (.cons .top (.cons .top (.cons .top (.cons .top (.cons .top (.cons .top (.cons .top (.cons .top (.cons .top (.cons .top (.cons .top (.cons .top (.cons .top (.cons .top (.cons .top (.cons .top (.cons .top (.cons .top (.cons .top (.cons .top (.cons .top (.cons .top (.cons .top (.cons .top (.cons .top (.cons .top (.cons .top (.cons .top (.cons .top (.cons .top (.cons .top (.cons .top (.cons .top (.cons .top (.cons .top (.cons .top (.cons .top (.cons .top (.cons .top (.cons .top (.cons .top (.cons .top (.cons .top (.cons .top (.cons .top (.cons .top (.cons .top (.cons .top (.cons .top .nil))))))))))))))))))))))))))))))))))))))))))))))))))))))))))))))))))))))))))))))))))))))), [(2, .arr false (.flt .f32)), (3, .arr false (.flt .f32)), (1026, .vals true (.cons (.slc 2) (.cons (.slc 3) .nil)))]⟩⟩, ⟨.ret, [2], ⟨(.cons .top (.cons .top (.cons .bool (.cons .top (.cons .top (.cons .top (.cons .top (.cons .top (.cons .top (.cons .top (.cons .top (.cons .top (.cons .top (.cons .top (.cons .top (.cons .top (.cons .top (.cons .top (.cons .top (.cons .top (.cons .top (.cons .top (.cons .top (.cons .top (.cons .top (.cons .top (.cons .top (.cons .top (.cons .top (.cons .top (.cons .top (.cons .top (.cons .top (.cons .top (.cons .top (.cons .top (.cons .top (.cons .top (.cons .top (.cons .top (.cons .top (.cons .top (.cons .top (.cons .top (.cons .top (.cons .top (.cons .top (.cons .top (.cons .top (.cons .top (.cons .top (.cons .top (.cons .top (.cons .top (.cons .top (.cons .top (.cons .top (.cons .top (.cons .top (.cons .top (.cons .top (.cons .top (.cons .top (.cons .top (.cons .top (.cons .top (.cons .top (.cons .top (.cons .top (.cons .top (.cons .top (.cons .top (.cons .top (.cons .top (.cons .top (.cons .top (.cons .top (.cons .top (.cons .top (.cons .top (.cons .top (.cons .top (.cons .top (.cons .top (.cons .top (.cons .top (.cons .top .nil))))))))))))))))))))))))))))))))))))))))))))))))))))))))))))))))))))))))))))))))))))))), [(2, .arr false (.flt .f32)), (3, .arr false (.flt .f32)), (1026, .vals true (.cons (.slc 2) (.cons (.slc 3) .nil)))]⟩⟩], fun x => x.1.1.toNat + 1⟩
def loopsC (f _ _ : Nat) : Option LSpec := bif Nat.beq f 29 then some L29 else bif Nat.beq f 49 then some L49 else none
theorem e50' (x : Fl .f32) : (fnT ΓA 10 50 [F32] [.bool] x).den = some (feq (fsub x x) (Fl.of .f32 0)) := by kernel_rfl
theorem s50 : SpecOk' Try.prog 50 finS := walked (fs := fs) (ss := ssA) (loop := noLoop) tysOk mixed fnsOk ssAOk 10 50 [F32] [.bool] rfl _ fun x _ h => ((e50' x).trans (congrArg some (feq_sub_self x))).trans h
def ssC : List (Nat × FSpec) := [(33, finS), (48, allFinS), (50, finS)]
theorem ssCOk : SpecsOk Try.prog ssC := ⟨s33, s48, s50, trivial⟩
noncomputable def ΓC : Ctx := ctxOf Try.prog tys fs ssC loopsC
end Go.Proofs.Ythikgdgnfhafaaa
