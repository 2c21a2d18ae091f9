/- Small functions of the program and of the reference, and of the statements. No condition. -/
import Derived.Test.YtjggcekliaalgaaHC
import Derived.Test.YtjggcekliaalgaaLG
import Derived.Test.YtjggcekliaalgaaLE
import Derived.Test.YtjggcekliaalgaaLG
namespace Go.Proofs.Ytjggcekliaalgaa
open Go.Ab
set_option maxRecDepth 100000 in
theorem s_bits64 : FTold Try.prog 196 bits64S := ftold (bits64_ok (fn := Try.f196) Try.func196 rfl rfl rfl rfl)
set_option maxRecDepth 100000 in
theorem s_from64 : FTold Try.prog 195 from64S := ftold (from64_ok (fn := Try.f195) Try.func195 rfl rfl rfl rfl)
def finG (x : Fl .f32) : Option Bool := some (fin x)
def finS : FSpec := ⟨[F32], [.bool], finG⟩
def loops_IsFinite (_ _ _ : Nat) : Option LSpec := none
noncomputable def ss_IsFinite : List (Nat × FSpec) := [(196, bits64S), (195, from64S)]
theorem ssOk_IsFinite : FTolds Try.prog ss_IsFinite := ⟨s_bits64, s_from64, trivial⟩
noncomputable def Γ_IsFinite : Ctx := ctxOf Try.prog tys fs ss_IsFinite loops_IsFinite
noncomputable def d_IsFinite (x : Fl .f32) : Option (Bool) := bif !fne (fwide x) (fwide x) then (bif true then (Option.bind (fbits .f64 (fwide x)) fun (r0 : Int) => (Option.bind (ofBits .f64 (ibits BinOp.andNot IntKind.u64 r0 9223372036854775808)) fun (r1 : (Fl .f64)) => (some (!fgt r1 (Fl.of .f64 9218868437227405311))))) else (bif false then (some (!fgt (fneg (fwide x)) (Fl.of .f64 9218868437227405311))) else (some (!fgt (fwide x) (Fl.of .f64 9218868437227405311))))) else (some (false))
theorem t_IsFinite (x : Fl .f32) : (fnT Γ_IsFinite 10 106 [F32] [.bool] x).den = d_IsFinite x := by kernel_rfl
theorem p_IsFinite (x : Fl .f32) (r : Bool) (h : finG x = some r) : d_IsFinite x = some r := by
  refine Eq.trans ?_ h
  show (bif !fne (fwide x) (fwide x) then (fbits .f64 (fwide x)).bind (fun r0 => (ofBits .f64 (ibits .andNot .u64 r0 9223372036854775808)).bind fun r1 => some (!fgt r1 (Fl.of .f64 9218868437227405311))) else some false) = some (fin x)
  rw [isInf_tree, fin_wide]
theorem s_IsFinite : FTold Try.prog 106 finS := walkedF (fs := fs) (ss := ss_IsFinite) (loop := loops_IsFinite) tysOk mixed fnsOk ssOk_IsFinite 10 106 [F32] [.bool] rfl _ fun x r h => (t_IsFinite x).trans (p_IsFinite x r h)
def loops_l01Finite (_ _ _ : Nat) : Option LSpec := none
noncomputable def ss_l01Finite : List (Nat × FSpec) := []
theorem ssOk_l01Finite : FTolds Try.prog ss_l01Finite := trivial
noncomputable def Γ_l01Finite : Ctx := ctxOf Try.prog tys fs ss_l01Finite loops_l01Finite
noncomputable def d_l01Finite (x : Fl .f32) : Option (Bool) := some (feq (fsub x x) (Fl.of .f32 0))
theorem t_l01Finite (x : Fl .f32) : (fnT Γ_l01Finite 10 102 [F32] [.bool] x).den = d_l01Finite x := by kernel_rfl
theorem p_l01Finite (x : Fl .f32) (r : Bool) (h : finG x = some r) : d_l01Finite x = some r := by
  refine Eq.trans ?_ h
  show some (feq (fsub x x) (Fl.of .f32 0)) = some (fin x)
  rw [feq_sub_self]
theorem s_l01Finite : FTold Try.prog 102 finS := walkedF (fs := fs) (ss := ss_l01Finite) (loop := loops_l01Finite) tysOk mixed fnsOk ssOk_l01Finite 10 102 [F32] [.bool] rfl _ fun x r h => (t_l01Finite x).trans (p_l01Finite x r h)
def withinG (x : Int × Int × Int) : Option Bool := some (decide (x.2.1 ≤ x.1) && decide (x.1 ≤ x.2.2))
def withinS : FSpec := ⟨[I64, I64, I64], [.bool], withinG⟩
def loops_within (_ _ _ : Nat) : Option LSpec := none
noncomputable def ss_within : List (Nat × FSpec) := []
theorem ssOk_within : FTolds Try.prog ss_within := trivial
noncomputable def Γ_within : Ctx := ctxOf Try.prog tys fs ss_within loops_within
noncomputable def d_within (a b c : Int) : Option (Bool) := bif decide (b ≤ a) then (some (decide (a ≤ c))) else (some (false))
theorem t_within (a b c : Int) : (fnT Γ_within 10 84 [I64, I64, I64] [.bool] (a, b, c)).den = d_within a b c := by kernel_rfl
theorem p_within (a b c : Int) (r : Bool) (h : withinG (a, b, c) = some r) : d_within a b c = some r := by
  refine Eq.trans ?_ h
  unfold d_within withinG
  simp only
  cases decide (b ≤ a) <;> rfl
theorem s_within : FTold Try.prog 84 withinS := walkedF (fs := fs) (ss := ss_within) (loop := loops_within) tysOk mixed fnsOk ssOk_within 10 84 [I64, I64, I64] [.bool] rfl _ fun (a, b, c) r h => (t_within a b c).trans (p_within a b c r h)
def loops_l00In (_ _ _ : Nat) : Option LSpec := none
noncomputable def ss_l00In : List (Nat × FSpec) := []
theorem ssOk_l00In : FTolds Try.prog ss_l00In := trivial
noncomputable def Γ_l00In : Ctx := ctxOf Try.prog tys fs ss_l00In loops_l00In
noncomputable def d_l00In (a b c : Int) : Option (Bool) := bif decide (a ≥ b) then (some (decide (a ≤ c))) else (some (false))
theorem t_l00In (a b c : Int) : (fnT Γ_l00In 10 77 [I64, I64, I64] [.bool] (a, b, c)).den = d_l00In a b c := by kernel_rfl
theorem p_l00In (a b c : Int) (r : Bool) (h : withinG (a, b, c) = some r) : d_l00In a b c = some r := by
  refine Eq.trans ?_ h
  unfold d_l00In withinG
  simp only
  rw [show decide (a ≥ b) = decide (b ≤ a) from rfl]
  cases decide (b ≤ a) <;> rfl
theorem s_l00In : FTold Try.prog 77 withinS := walkedF (fs := fs) (ss := ss_l00In) (loop := loops_l00In) tysOk mixed fnsOk ssOk_l00In 10 77 [I64, I64, I64] [.bool] rfl _ fun (a, b, c) r h => (t_l00In a b c).trans (p_l00In a b c r h)
def notFinG (x : Fl .f32) : Option Bool := some (!fin x)
def notFinS : FSpec := ⟨[F32], [.bool], notFinG⟩
def loops_areFin1 (_ _ _ : Nat) : Option LSpec := none
noncomputable def ss_areFin1 : List (Nat × FSpec) := [(106, finS)]
theorem ssOk_areFin1 : FTolds Try.prog ss_areFin1 := ⟨s_IsFinite, trivial⟩
noncomputable def Γ_areFin1 : Ctx := ctxOf Try.prog tys fs ss_areFin1 loops_areFin1
noncomputable def d_areFin1 (x : Fl .f32) : Option (Bool) := Option.bind (finG x) fun (r0 : Bool) => (some (!r0))
theorem t_areFin1 (x : Fl .f32) : (fnT Γ_areFin1 10 172 [F32] [.bool] x).den = d_areFin1 x := by kernel_rfl
theorem p_areFin1 (x : Fl .f32) (r : Bool) (h : notFinG x = some r) : d_areFin1 x = some r := by
  exact h
theorem s_areFin1 : FTold Try.prog 172 notFinS := walkedF (fs := fs) (ss := ss_areFin1) (loop := loops_areFin1) tysOk mixed fnsOk ssOk_areFin1 10 172 [F32] [.bool] rfl _ fun x r h => (t_areFin1 x).trans (p_areFin1 x r h)
def allFinG (l : LS) : Option Bool := if l.length < 2 ^ 62 then some (l.all fin) else none
def allFinS : FSpec := ⟨[L32], [.bool], allFinG⟩
def L_areFinite_1 : LSpec := ⟨[0, 1, 7, 8], ⟨Shs.at 19 [(0, (.slc 2)), (1, (.fn (Fn.func 172) .nil .nil)), (7, (.int IntKind.i64)), (8, (.int IntKind.i64))], [(2, (.arr false (EK.flt FloatKind.f32)))]⟩, [⟨.ret, [4], ⟨Shs.at 19 [(4, (.int IntKind.i64))], [(2, (.arr false (EK.flt FloatKind.f32)))]⟩⟩, ⟨.ext 0, [], ⟨Shs.at 19 [], [(2, (.arr false (EK.flt FloatKind.f32)))]⟩⟩], fun _ => bigN⟩
def loops_areFinite (f k n : Nat) : Option LSpec := bif (Nat.beq f 198 && Nat.beq k 2 && Nat.beq n 1053704) then some L_areFinite_1 else none
abbrev S_areFinite_1 : Type := ((Nat × ((Unit × Unit) × (Int × (Int × Unit)))) × ((List (Fl .f32)) × Unit))
abbrev R_areFinite_1 : Type := (((Int × Unit) × ((List (Fl .f32)) × Unit)) ⊕ (Unit × ((List (Fl .f32)) × Unit)))
noncomputable def B_areFinite_1 (y : S_areFinite_1) : Option (S_areFinite_1 ⊕ R_areFinite_1) := bif decide (y.1.2.2.2.1 < y.1.2.2.1) then (bif inB y.1.2.2.2.1 y.1.1 then (Option.bind (notFinG (List.getD y.2.1 (0 + Int.toNat y.1.2.2.2.1) dN)) fun (r1 : Bool) => (bif r1 then (some (Sum.inr (Sum.inl (((y.1.2.2.2.1, ()), (y.2.1, ())))))) else (some (Sum.inl (((y.1.1, (((), ()), (y.1.2.2.1, (IntKind.i64.wrap (y.1.2.2.2.1 + 1), ())))), (y.2.1, ()))))))) else (none)) else (some (Sum.inr (Sum.inr (((), (y.2.1, ()))))))
noncomputable def ss_areFinite : List (Nat × FSpec) := [(172, notFinS)]
theorem ssOk_areFinite : FTolds Try.prog ss_areFinite := ⟨s_areFin1, trivial⟩
noncomputable def Γ_areFinite : Ctx := ctxOf Try.prog tys fs ss_areFinite loops_areFinite
noncomputable def d_areFinite (l : LS) : Option (Bool) := Option.bind (iter B_areFinite_1 bigN (((List.length l, (((), ()), (((List.length l : Nat) : Int), (0, ())))), (l, ())))) fun (r0 : (((Int × Unit) × ((List (Fl .f32)) × Unit)) ⊕ (Unit × ((List (Fl .f32)) × Unit)))) => (match r0 with | .inl x2 => (some (!decide (x2.1.1 ≥ 0))) | .inr x2 => (some (true)))
theorem t_areFinite (l : LS) : (fnT Γ_areFinite 10 112 [L32] [.bool] l).den = d_areFinite l := by kernel_rfl
abbrev stopF (l : LS) (i : Nat) : Option R_areFinite_1 := if fin (l.getD i dN) = true then none else some (.inl (((i : Int), ()), (l, ())))
theorem all_fin (l : LS) : (firstOf (stopF l) l.length 0 = none ∧ l.all fin = true) ∨ (∃ j : Nat, firstOf (stopF l) l.length 0 = some (.inl (((j : Int), ()), (l, ()))) ∧ l.all fin = false) := by
  cases hf : firstOf (stopF l) l.length 0 with
  | none =>
    refine .inl ⟨rfl, List.all_eq_true.2 fun x hx => ?_⟩
    obtain ⟨j, hj, rfl⟩ := List.getElem_of_mem hx
    have := (firstOf_none _ _ _).1 hf j (Nat.zero_le _) (by omega)
    unfold stopF at this
    split at this
    · rename_i h; simpa [List.getD_eq_getElem?_getD, hj] using h
    · cases this
  | some r =>
    obtain ⟨j, _, hj, hs⟩ := firstOf_some _ _ _ _ hf
    unfold stopF at hs
    split at hs
    · cases hs
    · rename_i h
      cases hs
      refine .inr ⟨j, rfl, ?_⟩
      rw [List.all_eq_false]
      refine ⟨l[j]'(by omega), List.getElem_mem _, ?_⟩
      have hjl : j < l.length := by omega
      simpa [List.getD_eq_getElem?_getD, hjl] using h
theorem p_areFinite (l : LS) (r : Bool) (h : allFinG l = some r) : d_areFinite l = some r := by
  obtain ⟨hb, rfl⟩ := if_some (show (if List.length l < 2 ^ 62 then some (List.all l fin) else none) = some r from h)
  unfold d_areFinite
  have key := iter_find' (B := B_areFinite_1) (fun i => ((l.length, (((), ()), ((l.length : Int), ((i : Int), ())))), (l, ()))) 0 l.length (stopF l) (.inr ((), (l, ()))) (Nat.zero_le _) hb (fun i _ hi => by
    unfold B_areFinite_1 stopF notFinG
    simp only [ltT hi, inB_of hi, inc64 hi hb, cond_true, Int.toNat_natCast, Nat.zero_add, Option.bind_some]
    by_cases e : fin (l.getD i dN) = true
    · rw [if_pos e, e]; rfl
    · rw [if_neg e, Bool.eq_false_iff.2 e]; rfl) (by
    unfold B_areFinite_1
    simp only [ltF, cond_false])
  refine (congrArg (fun z => Option.bind z _) key).trans ?_
  rcases all_fin l with ⟨h1, h2⟩ | ⟨j, h1, h2⟩
  · rw [Nat.sub_zero, h1, h2]; rfl
  · rw [Nat.sub_zero, h1, h2]
    show some (!decide ((j : Int) ≥ 0)) = some false
    rw [decide_eq_true (by omega)]; rfl
theorem s_areFinite : FTold Try.prog 112 allFinS := walkedF (fs := fs) (ss := ss_areFinite) (loop := loops_areFinite) tysOk mixed fnsOk ssOk_areFinite 10 112 [L32] [.bool] rfl _ fun l r h => (t_areFinite l).trans (p_areFinite l r h)
def selfFG (x : Fl .f64 × Fl .f64) : Option Bool := if x.1 = x.2 then some true else none
def selfFS : FSpec := ⟨[F64, F64], [.bool], selfFG⟩
def loops_sameFloat (_ _ _ : Nat) : Option LSpec := none
noncomputable def ss_sameFloat : List (Nat × FSpec) := []
theorem ssOk_sameFloat : FTolds Try.prog ss_sameFloat := trivial
noncomputable def Γ_sameFloat : Ctx := ctxOf Try.prog tys fs ss_sameFloat loops_sameFloat
noncomputable def d_sameFloat (x y : Fl .f64) : Option (Bool) := bif fne x x then (bif fne x x then (some (fne y y)) else (some (false))) else (bif fne y y then (bif fne x x then (some (fne y y)) else (some (false))) else (bif feq x (Fl.of .f64 0) then (bif feq y (Fl.of .f64 0) then (some (fgt (fdiv (Fl.of .f64 4607182418800017408) x) (Fl.of .f64 0) == fgt (fdiv (Fl.of .f64 4607182418800017408) y) (Fl.of .f64 0))) else (some (feq x y))) else (some (feq x y))))
theorem t_sameFloat (x y : Fl .f64) : (fnT Γ_sameFloat 10 135 [F64, F64] [.bool] (x, y)).den = d_sameFloat x y := by kernel_rfl
theorem p_sameFloat (x y : Fl .f64) (r : Bool) (h : selfFG (x, y) = some r) : d_sameFloat x y = some r := by
  obtain ⟨rfl, rfl⟩ := if_some (show (if x = y then some true else none) = some r from h)
  unfold d_sameFloat
  exact self_tree x _ _
theorem s_sameFloat : FTold Try.prog 135 selfFS := walkedF (fs := fs) (ss := ss_sameFloat) (loop := loops_sameFloat) tysOk mixed fnsOk ssOk_sameFloat 10 135 [F64, F64] [.bool] rfl _ fun (x, y) r h => (t_sameFloat x y).trans (p_sameFloat x y r h)
def selfLG (x : LS × LS) : Option Bool := if x.1 = x.2 ∧ x.1.length < 2 ^ 62 then some true else none
def selfLS : FSpec := ⟨[L32, L32], [.bool], selfLG⟩
def L_eqL_1 : LSpec := ⟨[0, 1, 5], ⟨Shs.at 29 [(0, (.slc 2)), (1, (.slc 3)), (5, (.int IntKind.i64))], [(2, (.arr false (EK.flt FloatKind.f32))), (3, (.arr false (EK.flt FloatKind.f32)))]⟩, [⟨.ret, [4], ⟨Shs.at 29 [(4, .bool)], [(2, (.arr false (EK.flt FloatKind.f32))), (3, (.arr false (EK.flt FloatKind.f32)))]⟩⟩, ⟨.ext 0, [], ⟨Shs.at 29 [], [(2, (.arr false (EK.flt FloatKind.f32))), (3, (.arr false (EK.flt FloatKind.f32)))]⟩⟩], fun _ => bigN⟩
def loops_eqL (f k n : Nat) : Option LSpec := bif (Nat.beq f 66 && Nat.beq k 4 && Nat.beq n 1) then some L_eqL_1 else none
abbrev S_eqL_1 : Type := ((Nat × (Nat × (Int × Unit))) × ((List (Fl .f32)) × ((List (Fl .f32)) × Unit)))
abbrev R_eqL_1 : Type := (((Bool × Unit) × ((List (Fl .f32)) × ((List (Fl .f32)) × Unit))) ⊕ (Unit × ((List (Fl .f32)) × ((List (Fl .f32)) × Unit))))
noncomputable def B_eqL_1 (y : S_eqL_1) : Option (S_eqL_1 ⊕ R_eqL_1) := bif decide (y.1.2.2.1 < (y.1.1 : Int)) then (bif inB y.1.2.2.1 y.1.1 then (bif inB y.1.2.2.1 y.1.2.1 then (Option.bind (selfFG (fwide (List.getD y.2.1 (0 + Int.toNat y.1.2.2.1) dN), fwide (List.getD y.2.2.1 (0 + Int.toNat y.1.2.2.1) dN))) fun (r1 : Bool) => (bif !r1 then (some (Sum.inr (Sum.inl (((false, ()), (y.2.1, (y.2.2.1, ()))))))) else (some (Sum.inl (((y.1.1, (y.1.2.1, (IntKind.i64.wrap (y.1.2.2.1 + 1), ()))), (y.2.1, (y.2.2.1, ())))))))) else (none)) else (none)) else (some (Sum.inr (Sum.inr (((), (y.2.1, (y.2.2.1, ())))))))
noncomputable def ss_eqL : List (Nat × FSpec) := [(135, selfFS)]
theorem ssOk_eqL : FTolds Try.prog ss_eqL := ⟨s_sameFloat, trivial⟩
noncomputable def Γ_eqL : Ctx := ctxOf Try.prog tys fs ss_eqL loops_eqL
noncomputable def d_eqL (l m : LS) : Option (Bool) := bif ((List.length l : Nat) : Int) != ((List.length m : Nat) : Int) then (some (false)) else (Option.bind (iter B_eqL_1 bigN (((List.length l, (List.length m, (0, ()))), (l, (m, ()))))) fun (r0 : (((Bool × Unit) × ((List (Fl .f32)) × ((List (Fl .f32)) × Unit))) ⊕ (Unit × ((List (Fl .f32)) × ((List (Fl .f32)) × Unit))))) => (match r0 with | .inl x2 => (some (x2.1.1)) | .inr x2 => (some (true))))
theorem t_eqL (l m : LS) : (fnT Γ_eqL 10 66 [L32, L32] [.bool] (l, m)).den = d_eqL l m := by kernel_rfl
theorem p_eqL (l m : LS) (r : Bool) (h : selfLG (l, m) = some r) : d_eqL l m = some r := by
  obtain ⟨⟨rfl, hb⟩, rfl⟩ := if_some (show (if l = m ∧ List.length l < 2 ^ 62 then some true else none) = some r from h)
  unfold d_eqL
  have key := iter_for (B := B_eqL_1) (fun i => ((l.length, (l.length, ((i : Int), ()))), (l, (l, ())))) 0 l.length (.inr ((), (l, (l, ())))) (Nat.zero_le _) hb (fun i _ hi => by
    have h5 : selfFG (fwide (l.getD i dN), fwide (l.getD i dN)) = some true := if_pos rfl
    unfold B_eqL_1
    simp only [ltT hi, inB_of hi, inc64 hi hb, cond_true, Int.toNat_natCast, Nat.zero_add, h5]
    rfl) (by
    unfold B_eqL_1
    simp only [ltF, cond_false])
  have h0 : ((l.length : Int) != (l.length : Int)) = false := by simp
  rw [h0, cond_false]
  exact congrArg (fun z => Option.bind z _) key
theorem s_eqL : FTold Try.prog 66 selfLS := walkedF (fs := fs) (ss := ss_eqL) (loop := loops_eqL) tysOk mixed fnsOk ssOk_eqL 10 66 [L32, L32] [.bool] rfl _ fun (l, m) r h => (t_eqL l m).trans (p_eqL l m r h)
def copyG (l : LS) : Option LS := if l.length ≤ 2 ^ 40 then some l else none
def copyS : FSpec := ⟨[L32], [L32], copyG⟩
def L_toL_1 : LSpec := ⟨[0, 3, 4], ⟨Shs.at 22 [(0, (.slc 2)), (3, (.slc 2146435264)), (4, (.int IntKind.i64))], [(2, (.arr false (EK.flt FloatKind.f32))), (2146435264, (.arr true (EK.flt FloatKind.f32)))]⟩, [⟨.ext 0, [3], ⟨Shs.at 22 [(3, (.slc 2146435264))], [(2, (.arr false (EK.flt FloatKind.f32))), (2146435264, (.arr true (EK.flt FloatKind.f32)))]⟩⟩], fun _ => bigN⟩
def loops_toL (f k n : Nat) : Option LSpec := bif (Nat.beq f 61 && Nat.beq k 3 && Nat.beq n 1) then some L_toL_1 else none
abbrev S_toL_1 : Type := ((Nat × (Nat × (Int × Unit))) × ((List (Fl .f32)) × ((List (Fl .f32)) × Unit)))
abbrev R_toL_1 : Type := ((Nat × Unit) × ((List (Fl .f32)) × ((List (Fl .f32)) × Unit)))
noncomputable def B_toL_1 (y : S_toL_1) : Option (S_toL_1 ⊕ R_toL_1) := bif decide (y.1.2.2.1 < (y.1.1 : Int)) then (bif inB y.1.2.2.1 y.1.1 then (bif inB y.1.2.2.1 y.1.2.1 then (some (Sum.inl (((y.1.1, (y.1.2.1, (IntKind.i64.wrap (y.1.2.2.1 + 1), ()))), (y.2.1, (List.set y.2.2.1 (0 + Int.toNat y.1.2.2.1) (List.getD y.2.1 (0 + Int.toNat y.1.2.2.1) dN), ())))))) else (none)) else (none)) else (some (Sum.inr (((y.1.2.1, ()), (y.2.1, (y.2.2.1, ()))))))
noncomputable def ss_toL : List (Nat × FSpec) := []
theorem ssOk_toL : FTolds Try.prog ss_toL := trivial
noncomputable def Γ_toL : Ctx := ctxOf Try.prog tys fs ss_toL loops_toL
noncomputable def d_toL (l : LS) : Option ((List (Fl .f32))) := bif decide (0 ≤ ((List.length l : Nat) : Int)) && decide ((4 : Int) * ((List.length l : Nat) : Int) ≤ (140737488355328 : Int)) then (Option.bind (iter B_toL_1 bigN (((List.length l, ((((List.length l : Nat) : Int)).toNat, (0, ()))), (l, (List.replicate (((List.length l : Nat) : Int)).toNat (Fl.of .f32 0), ()))))) fun (r0 : ((Nat × Unit) × ((List (Fl .f32)) × ((List (Fl .f32)) × Unit)))) => (some (sub r0.2.2.1 0 r0.1.1))) else (none)
theorem t_toL (l : LS) : (fnT Γ_toL 10 61 [L32] [L32] l).den = d_toL l := by kernel_rfl
theorem p_toL (l : LS) (r : (List (Fl .f32))) (h : copyG l = some r) : d_toL l = some r := by
  obtain ⟨hb, rfl⟩ := if_some (show (if List.length l ≤ 2 ^ 40 then some l else none) = some r from h)
  unfold d_toL
  have h1 : decide ((0 : Int) ≤ (l.length : Int)) = true := by simp
  have h2 : decide ((4 : Int) * (l.length : Int) ≤ (140737488355328 : Int)) = true := by simp; omega
  rw [h1, h2]
  have key := iter_big (copy_loop dN l (by omega) l.length 0 (List.replicate l.length (Fl.of .f32 0)) (Nat.zero_add _) (by simp) (by simp)) (by omega)
  simp only [Int.toNat_natCast, Bool.and_self, cond_true]
  refine (congrArg (fun z => Option.bind z _) (show iter B_toL_1 bigN _ = _ from key)).trans ?_
  simp [sub]
theorem s_toL : FTold Try.prog 61 copyS := walkedF (fs := fs) (ss := ss_toL) (loop := loops_toL) tysOk mixed fnsOk ssOk_toL 10 61 [L32] [L32] rfl _ fun l r h => (t_toL l).trans (p_toL l r h)
def heldG (x : LS × Int) : Option Int := if x.1 = marks x.2 x.1.length ∧ x.1.length < 2 ^ 40 ∧ 0 ≤ x.2 ∧ x.2 < 2 ^ 60 then some (x.2 + x.1.length) else none
def heldS : FSpec := ⟨[L32, I64], [I64], heldG⟩
def L_heldL_1 : LSpec := ⟨[0, 1, 5], ⟨Shs.at 22 [(0, (.slc 2)), (1, (.int IntKind.i64)), (5, (.int IntKind.i64))], [(2, (.arr false (EK.flt FloatKind.f32)))]⟩, [⟨.ret, [4], ⟨Shs.at 22 [(4, (.int IntKind.i64))], [(2, (.arr false (EK.flt FloatKind.f32)))]⟩⟩, ⟨.ext 0, [1], ⟨Shs.at 22 [(1, (.int IntKind.i64))], [(2, (.arr false (EK.flt FloatKind.f32)))]⟩⟩], fun _ => bigN⟩
def loops_heldL (f k n : Nat) : Option LSpec := bif (Nat.beq f 68 && Nat.beq k 2 && Nat.beq n 1) then some L_heldL_1 else none
abbrev S_heldL_1 : Type := ((Nat × (Int × (Int × Unit))) × ((List (Fl .f32)) × Unit))
abbrev R_heldL_1 : Type := (((Int × Unit) × ((List (Fl .f32)) × Unit)) ⊕ ((Int × Unit) × ((List (Fl .f32)) × Unit)))
noncomputable def B_heldL_1 (y : S_heldL_1) : Option (S_heldL_1 ⊕ R_heldL_1) := bif decide (y.1.2.2.1 < (y.1.1 : Int)) then (bif inB y.1.2.2.1 y.1.1 then (bif fne (List.getD y.2.1 (0 + Int.toNat y.1.2.2.1) dN) (fofInt .f32 y.1.2.1) then (some (Sum.inr (Sum.inl (((-1, ()), (y.2.1, ())))))) else (some (Sum.inl (((y.1.1, (IntKind.i64.wrap (y.1.2.1 + 1), (IntKind.i64.wrap (y.1.2.2.1 + 1), ()))), (y.2.1, ())))))) else (none)) else (some (Sum.inr (Sum.inr (((y.1.2.1, ()), (y.2.1, ()))))))
noncomputable def ss_heldL : List (Nat × FSpec) := []
theorem ssOk_heldL : FTolds Try.prog ss_heldL := trivial
noncomputable def Γ_heldL : Ctx := ctxOf Try.prog tys fs ss_heldL loops_heldL
noncomputable def d_heldL (l : LS) (k : Int) : Option (Int) := Option.bind (iter B_heldL_1 bigN (((List.length l, (k, (0, ()))), (l, ())))) fun (r0 : (((Int × Unit) × ((List (Fl .f32)) × Unit)) ⊕ ((Int × Unit) × ((List (Fl .f32)) × Unit)))) => (match r0 with | .inl x1 => (some (x1.1.1)) | .inr x1 => (some (x1.1.1)))
theorem t_heldL (l : LS) (k : Int) : (fnT Γ_heldL 10 68 [L32, I64] [I64] (l, k)).den = d_heldL l k := by kernel_rfl
theorem p_heldL (l : LS) (k : Int) (r : Int) (h : heldG (l, k) = some r) : d_heldL l k = some r := by
  obtain ⟨⟨e, hb, h0, h1⟩, rfl⟩ := if_some (show (if l = marks k (List.length l) ∧ List.length l < 2 ^ 40 ∧ 0 ≤ k ∧ k < 2 ^ 60 then some (k + (List.length l : Int)) else none) = some r from h)
  unfold d_heldL
  have key := iter_for (B := B_heldL_1) (fun i => ((l.length, (k + i, ((i : Int), ()))), (l, ()))) 0 l.length (.inr ((k + (l.length : Int), ()), (l, ()))) (Nat.zero_le _) (by omega) (fun i _ hi => by
    have g : l.getD i dN = fofInt .f32 (k + i) := by
      have := marks_get k l.length i hi
      rw [← e] at this; exact this
    have w : IntKind.i64.wrap (k + (i : Int) + 1) = k + ((i + 1 : Nat) : Int) := by rw [wrap64 (by omega) (by omega)]; omega
    unfold B_heldL_1
    simp only [ltT hi, inB_of hi, inc64 hi (show l.length < 2 ^ 62 by omega), cond_true, Int.toNat_natCast, Nat.zero_add, g, fne_ofInt, w, cond_false]) (by
    unfold B_heldL_1
    simp only [ltF, cond_false])
  have e0 : k + ((0 : Nat) : Int) = k := by omega
  simp only [e0] at key
  exact congrArg (fun z => Option.bind z _) key
theorem s_heldL : FTold Try.prog 68 heldS := walkedF (fs := fs) (ss := ss_heldL) (loop := loops_heldL) tysOk mixed fnsOk ssOk_heldL 10 68 [L32, I64] [I64] rfl _ fun (l, k) r h => (t_heldL l k).trans (p_heldL l k r h)
theorem beqD (a b : Int) : (a == b) = decide (a = b) := by by_cases h : a = b <;> simp [h]
theorem beqB (a b : Bool) : (a == b) = decide (a = b) := by cases a <;> cases b <;> rfl
theorem bif_iff {b : Bool} {p q : Prop} {t : Option Bool} (hb : b = true ↔ p) (ht : ∃ c, t = some c ∧ (c = true ↔ q)) : ∃ c, (bif b then t else some false) = some c ∧ (c = true ↔ p ∧ q) := by
  obtain ⟨c, h1, h2⟩ := ht
  cases b with
  | true => exact ⟨c, h1, by rw [h2]; exact ⟨fun h => ⟨hb.1 rfl, h⟩, fun h => h.2⟩⟩
  | false => exact ⟨false, rfl, ⟨fun h => (by cases h), fun h => (by have := hb.2 h.1; cases this)⟩⟩
theorem end_iff {b : Bool} {p : Prop} (hb : b = true ↔ p) : ∃ c, some b = some c ∧ (c = true ↔ p) := ⟨b, rfl, hb⟩
theorem tree_iff {t : Option Bool} {r : Bool} {p q : Prop} (h : ∃ c, t = some c ∧ (c = true ↔ q)) (hr : r = true ↔ p) (hpq : p ↔ q) : t = some r := by
  obtain ⟨c, h1, h2⟩ := h
  rw [h1, show c = r from Bool.eq_iff_iff.2 (h2.trans (hpq.symm.trans hr.symm))]
theorem beq_iff (a b : Int) : (a == b) = true ↔ a = b := by rw [beqD]; exact decide_eq_true_iff
def eqIG (x : LI × LI) : Option Bool := if x.1.length < 2 ^ 62 then some (decide (x.1 = x.2)) else none
def eqIS : FSpec := ⟨[L64, L64], [.bool], eqIG⟩
def L_Equal_1 : LSpec := ⟨[0, 1, 12, 13], ⟨Shs.at 26 [(0, (.slc 2)), (1, (.slc 3)), (12, (.int IntKind.i64)), (13, (.int IntKind.i64))], [(2, (.arr false (EK.int IntKind.i64))), (3, (.arr false (EK.int IntKind.i64)))]⟩, [⟨.ret, [4], ⟨Shs.at 26 [(4, .bool)], [(2, (.arr false (EK.int IntKind.i64))), (3, (.arr false (EK.int IntKind.i64)))]⟩⟩, ⟨.ext 0, [], ⟨Shs.at 26 [], [(2, (.arr false (EK.int IntKind.i64))), (3, (.arr false (EK.int IntKind.i64)))]⟩⟩], fun _ => bigN⟩
def loops_Equal (f k n : Nat) : Option LSpec := bif (Nat.beq f 133 && Nat.beq k 4 && Nat.beq n 1) then some L_Equal_1 else none
abbrev S_Equal_1 : Type := ((Nat × (Nat × (Int × (Int × Unit)))) × ((List Int) × ((List Int) × Unit)))
abbrev R_Equal_1 : Type := (((Bool × Unit) × ((List Int) × ((List Int) × Unit))) ⊕ (Unit × ((List Int) × ((List Int) × Unit))))
noncomputable def B_Equal_1 (y : S_Equal_1) : Option (S_Equal_1 ⊕ R_Equal_1) := bif decide (y.1.2.2.2.1 < y.1.2.2.1) then (bif inB y.1.2.2.2.1 y.1.1 then (bif inB y.1.2.2.2.1 y.1.2.1 then (bif List.getD y.2.1 (0 + Int.toNat y.1.2.2.2.1) (0 : Int) != List.getD y.2.2.1 (0 + Int.toNat y.1.2.2.2.1) (0 : Int) then (some (Sum.inr (Sum.inl (((false, ()), (y.2.1, (y.2.2.1, ()))))))) else (some (Sum.inl (((y.1.1, (y.1.2.1, (y.1.2.2.1, (IntKind.i64.wrap (y.1.2.2.2.1 + 1), ())))), (y.2.1, (y.2.2.1, ()))))))) else (none)) else (none)) else (some (Sum.inr (Sum.inr (((), (y.2.1, (y.2.2.1, ())))))))
noncomputable def ss_Equal : List (Nat × FSpec) := []
theorem ssOk_Equal : FTolds Try.prog ss_Equal := trivial
noncomputable def Γ_Equal : Ctx := ctxOf Try.prog tys fs ss_Equal loops_Equal
noncomputable def d_Equal (l m : LI) : Option (Bool) := bif ((List.length l : Nat) : Int) != ((List.length m : Nat) : Int) then (some (false)) else (Option.bind (iter B_Equal_1 bigN (((List.length l, (List.length m, (((List.length l : Nat) : Int), (0, ())))), (l, (m, ()))))) fun (r0 : (((Bool × Unit) × ((List Int) × ((List Int) × Unit))) ⊕ (Unit × ((List Int) × ((List Int) × Unit))))) => (match r0 with | .inl x1 => (some (x1.1.1)) | .inr x1 => (some (true))))
theorem t_Equal (l m : LI) : (fnT Γ_Equal 10 133 [L64, L64] [.bool] (l, m)).den = d_Equal l m := by kernel_rfl
theorem p_Equal (l m : LI) (r : Bool) (h : eqIG (l, m) = some r) : d_Equal l m = some r := by
  obtain ⟨hb, rfl⟩ := if_some (show (if List.length l < 2 ^ 62 then some (decide (l = m)) else none) = some r from h)
  unfold d_Equal
  by_cases hl : List.length l = List.length m
  · have h0 : ((List.length l : Int) != (List.length m : Int)) = false := by simp [hl]
    rw [h0, cond_false]
    have key := iter_find' (B := B_Equal_1) (fun i => ((List.length l, (List.length m, ((List.length l : Int), ((i : Int), ())))), (l, (m, ())))) 0 (List.length l) (fun i => if List.getD l i (0 : Int) = List.getD m i (0 : Int) then none else some (.inl ((false, ()), (l, (m, ()))))) (.inr ((), (l, (m, ())))) (Nat.zero_le _) hb (fun i _ hi => by
      unfold B_Equal_1
      simp only [ltT hi, inB_of hi, inB_of (show i < List.length m by omega), inc64 hi hb, cond_true, Int.toNat_natCast, Nat.zero_add, Option.bind_some]
      by_cases e : List.getD l i (0 : Int) = List.getD m i (0 : Int)
      · rw [if_pos e, show (List.getD l i (0 : Int) != List.getD m i (0 : Int)) = false by rw [e]; exact bne_self_eq_false _]; rfl
      · rw [if_neg e, show (List.getD l i (0 : Int) != List.getD m i (0 : Int)) = true from bne_iff_ne.2 e]; rfl) (by
      unfold B_Equal_1
      simp only [ltF, cond_false])
    refine (congrArg (fun z => Option.bind z _) (show iter B_Equal_1 bigN _ = _ from key)).trans ?_
    rw [Nat.sub_zero, show firstOf (fun i => if List.getD l i (0 : Int) = List.getD m i (0 : Int) then none else some (.inl ((false, ()), (l, (m, ()))) : R_Equal_1)) (List.length l) 0 = _ from lists_same (0 : Int) l m hl _]
    by_cases e : l = m
    · rw [if_pos e]; simp [e]
    · rw [if_neg e]; simp [e]
  · have h0 : ((List.length l : Int) != (List.length m : Int)) = true := by simp; omega
    have hne : ¬ l = m := fun e => hl (by rw [e])
    rw [h0, cond_true]; simp [hne]
theorem s_Equal : FTold Try.prog 133 eqIS := walkedF (fs := fs) (ss := ss_Equal) (loop := loops_Equal) tysOk mixed fnsOk ssOk_Equal 10 133 [L64, L64] [.bool] rfl _ fun (l, m) r h => (t_Equal l m).trans (p_Equal l m r h)
theorem szF_no {n : Int} {k m : Nat} (h : n < (k : Int)) : szF n (k + m) = -1 ∧ szF n k = -1 := by
  unfold szF
  rw [if_pos (by omega), if_pos h]; exact ⟨rfl, rfl⟩
theorem szF_yes {n : Int} {k m : Nat} (h : ¬ n < (k : Int)) : szF n (k + m) = szF (n - k) m ∧ szF n k = n - k := by
  unfold szF
  rw [if_neg h]
  by_cases c : n - k < (m : Int)
  · rw [if_pos (by omega), if_pos c]; exact ⟨rfl, rfl⟩
  · rw [if_neg (by omega), if_neg c]; exact ⟨by omega, rfl⟩
/-- a chain of counts -/
theorem sz_chain {n : Int} {k m : Nat} (h : 0 ≤ n) {K : Int → Option Int} (hK : ¬ n < (k : Int) → K (n - k) = some (szF (n - k) m)) : (bif decide (szF n k < 0) then some (-1) else K (szF n k)) = some (szF n (k + m)) := by
  by_cases c : n < (k : Int)
  · obtain ⟨e1, e2⟩ := szF_no (m := m) c
    rw [e1, e2]; rfl
  · obtain ⟨e1, e2⟩ := szF_yes (m := m) c
    rw [e1, e2, decide_eq_false (by omega), cond_false]
    exact hK c
theorem sz_end {n : Int} {k : Nat} (h : 0 ≤ n) : (bif decide (szF n k < 0) then some (-1) else some (szF n k)) = some (szF n k) := by
  unfold szF
  by_cases c : n < (k : Int)
  · rw [if_pos c]; rfl
  · rw [if_neg c, decide_eq_false (by omega)]; rfl
def szG (x : LS × Int) : Option Int := if 0 ≤ x.2 ∧ x.2 ≤ 2 ^ 20 ∧ x.1.length ≤ maxLen then some (szF x.2 x.1.length) else none
def szS : FSpec := ⟨[L32, I64], [I64], szG⟩
def loops_szL (_ _ _ : Nat) : Option LSpec := none
noncomputable def ss_szL : List (Nat × FSpec) := []
theorem ssOk_szL : FTolds Try.prog ss_szL := trivial
noncomputable def Γ_szL : Ctx := ctxOf Try.prog tys fs ss_szL loops_szL
noncomputable def d_szL (l : LS) (n : Int) : Option (Int) := bif decide (IntKind.i64.wrap (n - ((List.length l : Nat) : Int)) < 0) then (some (-1)) else (some (IntKind.i64.wrap (n - ((List.length l : Nat) : Int))))
theorem t_szL (l : LS) (n : Int) : (fnT Γ_szL 10 58 [L32, I64] [I64] (l, n)).den = d_szL l n := by kernel_rfl
theorem p_szL (l : LS) (n : Int) (r : Int) (h : szG (l, n) = some r) : d_szL l n = some r := by
  obtain ⟨⟨h0, h1, h2⟩, rfl⟩ := if_some (show (if 0 ≤ n ∧ n ≤ 2 ^ 20 ∧ List.length l ≤ maxLen then some (szF n (List.length l)) else none) = some r from h)
  have hm : maxLen = 9223372036854775807 := rfl
  unfold d_szL
  rw [wrap64 (by omega) (by omega)]
  unfold szF
  by_cases h : n < (l.length : Int)
  · rw [if_pos h, decide_eq_true (show n - (l.length : Int) < 0 by omega)]; rfl
  · rw [if_neg h, decide_eq_false (show ¬ n - (l.length : Int) < 0 by omega)]; rfl
theorem s_szL : FTold Try.prog 58 szS := walkedF (fs := fs) (ss := ss_szL) (loop := loops_szL) tysOk mixed fnsOk ssOk_szL 10 58 [L32, I64] [I64] rfl _ fun (l, n) r h => (t_szL l n).trans (p_szL l n r h)
def szIG (x : LI × Int) : Option Int := if 0 ≤ x.2 ∧ x.2 ≤ 2 ^ 20 ∧ x.1.length ≤ maxLen then some (szF x.2 x.1.length) else none
def szIS : FSpec := ⟨[L64, I64], [I64], szIG⟩
def loops_szI (_ _ _ : Nat) : Option LSpec := none
noncomputable def ss_szI : List (Nat × FSpec) := []
theorem ssOk_szI : FTolds Try.prog ss_szI := trivial
noncomputable def Γ_szI : Ctx := ctxOf Try.prog tys fs ss_szI loops_szI
noncomputable def d_szI (l : LI) (n : Int) : Option (Int) := bif decide (IntKind.i64.wrap (n - ((List.length l : Nat) : Int)) < 0) then (some (-1)) else (some (IntKind.i64.wrap (n - ((List.length l : Nat) : Int))))
theorem t_szI (l : LI) (n : Int) : (fnT Γ_szI 10 69 [L64, I64] [I64] (l, n)).den = d_szI l n := by kernel_rfl
theorem p_szI (l : LI) (n : Int) (r : Int) (h : szIG (l, n) = some r) : d_szI l n = some r := by
  obtain ⟨⟨h0, h1, h2⟩, rfl⟩ := if_some (show (if 0 ≤ n ∧ n ≤ 2 ^ 20 ∧ List.length l ≤ maxLen then some (szF n (List.length l)) else none) = some r from h)
  have hm : maxLen = 9223372036854775807 := rfl
  unfold d_szI
  rw [wrap64 (by omega) (by omega)]
  unfold szF
  by_cases h : n < (l.length : Int)
  · rw [if_pos h, decide_eq_true (show n - (l.length : Int) < 0 by omega)]; rfl
  · rw [if_neg h, decide_eq_false (show ¬ n - (l.length : Int) < 0 by omega)]; rfl
theorem s_szI : FTold Try.prog 69 szIS := walkedF (fs := fs) (ss := ss_szI) (loop := loops_szI) tysOk mixed fnsOk ssOk_szI 10 69 [L64, I64] [I64] rfl _ fun (l, n) r h => (t_szI l n).trans (p_szI l n r h)
def copyIG (l : LI) : Option LI := if l.length ≤ 2 ^ 40 then some l else none
def copyIS : FSpec := ⟨[L64], [L64], copyIG⟩
def L_toI_1 : LSpec := ⟨[0, 3, 4], ⟨Shs.at 22 [(0, (.slc 2)), (3, (.slc 2146435264)), (4, (.int IntKind.i64))], [(2, (.arr false (EK.int IntKind.i64))), (2146435264, (.arr true (EK.int IntKind.i64)))]⟩, [⟨.ext 0, [3], ⟨Shs.at 22 [(3, (.slc 2146435264))], [(2, (.arr false (EK.int IntKind.i64))), (2146435264, (.arr true (EK.int IntKind.i64)))]⟩⟩], fun _ => bigN⟩
def loops_toI (f k n : Nat) : Option LSpec := bif (Nat.beq f 26 && Nat.beq k 3 && Nat.beq n 1) then some L_toI_1 else none
abbrev S_toI_1 : Type := ((Nat × (Nat × (Int × Unit))) × ((List Int) × ((List Int) × Unit)))
abbrev R_toI_1 : Type := ((Nat × Unit) × ((List Int) × ((List Int) × Unit)))
noncomputable def B_toI_1 (y : S_toI_1) : Option (S_toI_1 ⊕ R_toI_1) := bif decide (y.1.2.2.1 < (y.1.1 : Int)) then (bif inB y.1.2.2.1 y.1.1 then (bif inB y.1.2.2.1 y.1.2.1 then (some (Sum.inl (((y.1.1, (y.1.2.1, (IntKind.i64.wrap (y.1.2.2.1 + 1), ()))), (y.2.1, (List.set y.2.2.1 (0 + Int.toNat y.1.2.2.1) (List.getD y.2.1 (0 + Int.toNat y.1.2.2.1) (0 : Int)), ())))))) else (none)) else (none)) else (some (Sum.inr (((y.1.2.1, ()), (y.2.1, (y.2.2.1, ()))))))
noncomputable def ss_toI : List (Nat × FSpec) := []
theorem ssOk_toI : FTolds Try.prog ss_toI := trivial
noncomputable def Γ_toI : Ctx := ctxOf Try.prog tys fs ss_toI loops_toI
noncomputable def d_toI (l : LI) : Option ((List Int)) := bif decide (0 ≤ ((List.length l : Nat) : Int)) && decide ((8 : Int) * ((List.length l : Nat) : Int) ≤ (140737488355328 : Int)) then (Option.bind (iter B_toI_1 bigN (((List.length l, ((((List.length l : Nat) : Int)).toNat, (0, ()))), (l, (List.replicate (((List.length l : Nat) : Int)).toNat 0, ()))))) fun (r0 : ((Nat × Unit) × ((List Int) × ((List Int) × Unit)))) => (some (sub r0.2.2.1 0 r0.1.1))) else (none)
theorem t_toI (l : LI) : (fnT Γ_toI 10 26 [L64] [L64] l).den = d_toI l := by kernel_rfl
theorem p_toI (l : LI) (r : (List Int)) (h : copyIG l = some r) : d_toI l = some r := by
  obtain ⟨hb, rfl⟩ := if_some (show (if List.length l ≤ 2 ^ 40 then some l else none) = some r from h)
  unfold d_toI
  have h1 : decide ((0 : Int) ≤ (l.length : Int)) = true := by simp
  have h2 : decide ((8 : Int) * (l.length : Int) ≤ (140737488355328 : Int)) = true := by simp; omega
  rw [h1, h2]
  have key := iter_big (copy_loop (0 : Int) l (by omega) l.length 0 (List.replicate l.length (0 : Int)) (Nat.zero_add _) (by simp) (by simp)) (by omega)
  simp only [Int.toNat_natCast, Bool.and_self, cond_true]
  refine (congrArg (fun z => Option.bind z _) (show iter B_toI_1 bigN _ = _ from key)).trans ?_
  simp [sub]
theorem s_toI : FTold Try.prog 26 copyIS := walkedF (fs := fs) (ss := ss_toI) (loop := loops_toI) tysOk mixed fnsOk ssOk_toI 10 26 [L64] [L64] rfl _ fun l r h => (t_toI l).trans (p_toI l r h)
def selfIG (x : LI × LI) : Option Bool := if x.1 = x.2 ∧ x.1.length < 2 ^ 62 then some true else none
def selfIS : FSpec := ⟨[L64, L64], [.bool], selfIG⟩
def L_eqI_1 : LSpec := ⟨[0, 1, 5], ⟨Shs.at 26 [(0, (.slc 2)), (1, (.slc 3)), (5, (.int IntKind.i64))], [(2, (.arr false (EK.int IntKind.i64))), (3, (.arr false (EK.int IntKind.i64)))]⟩, [⟨.ret, [4], ⟨Shs.at 26 [(4, .bool)], [(2, (.arr false (EK.int IntKind.i64))), (3, (.arr false (EK.int IntKind.i64)))]⟩⟩, ⟨.ext 0, [], ⟨Shs.at 26 [], [(2, (.arr false (EK.int IntKind.i64))), (3, (.arr false (EK.int IntKind.i64)))]⟩⟩], fun _ => bigN⟩
def loops_eqI (f k n : Nat) : Option LSpec := bif (Nat.beq f 28 && Nat.beq k 4 && Nat.beq n 1) then some L_eqI_1 else none
abbrev S_eqI_1 : Type := ((Nat × (Nat × (Int × Unit))) × ((List Int) × ((List Int) × Unit)))
abbrev R_eqI_1 : Type := (((Bool × Unit) × ((List Int) × ((List Int) × Unit))) ⊕ (Unit × ((List Int) × ((List Int) × Unit))))
noncomputable def B_eqI_1 (y : S_eqI_1) : Option (S_eqI_1 ⊕ R_eqI_1) := bif decide (y.1.2.2.1 < (y.1.1 : Int)) then (bif inB y.1.2.2.1 y.1.1 then (bif inB y.1.2.2.1 y.1.2.1 then (bif List.getD y.2.1 (0 + Int.toNat y.1.2.2.1) (0 : Int) != List.getD y.2.2.1 (0 + Int.toNat y.1.2.2.1) (0 : Int) then (some (Sum.inr (Sum.inl (((false, ()), (y.2.1, (y.2.2.1, ()))))))) else (some (Sum.inl (((y.1.1, (y.1.2.1, (IntKind.i64.wrap (y.1.2.2.1 + 1), ()))), (y.2.1, (y.2.2.1, ()))))))) else (none)) else (none)) else (some (Sum.inr (Sum.inr (((), (y.2.1, (y.2.2.1, ())))))))
noncomputable def ss_eqI : List (Nat × FSpec) := []
theorem ssOk_eqI : FTolds Try.prog ss_eqI := trivial
noncomputable def Γ_eqI : Ctx := ctxOf Try.prog tys fs ss_eqI loops_eqI
noncomputable def d_eqI (l m : LI) : Option (Bool) := bif ((List.length l : Nat) : Int) != ((List.length m : Nat) : Int) then (some (false)) else (Option.bind (iter B_eqI_1 bigN (((List.length l, (List.length m, (0, ()))), (l, (m, ()))))) fun (r0 : (((Bool × Unit) × ((List Int) × ((List Int) × Unit))) ⊕ (Unit × ((List Int) × ((List Int) × Unit))))) => (match r0 with | .inl x1 => (some (x1.1.1)) | .inr x1 => (some (true))))
theorem t_eqI (l m : LI) : (fnT Γ_eqI 10 28 [L64, L64] [.bool] (l, m)).den = d_eqI l m := by kernel_rfl
theorem p_eqI (l m : LI) (r : Bool) (h : selfIG (l, m) = some r) : d_eqI l m = some r := by
  obtain ⟨⟨rfl, hb⟩, rfl⟩ := if_some (show (if l = m ∧ List.length l < 2 ^ 62 then some true else none) = some r from h)
  unfold d_eqI
  have key := iter_for (B := B_eqI_1) (fun i => ((l.length, (l.length, ((i : Int), ()))), (l, (l, ())))) 0 l.length (.inr ((), (l, (l, ())))) (Nat.zero_le _) hb (fun i _ hi => by
    unfold B_eqI_1
    simp only [ltT hi, inB_of hi, inc64 hi hb, cond_true, Int.toNat_natCast, Nat.zero_add, eq_bne, cond_false]) (by
    unfold B_eqI_1
    simp only [ltF, cond_false])
  have h0 : ((l.length : Int) != (l.length : Int)) = false := by simp
  rw [h0, cond_false]
  exact congrArg (fun z => Option.bind z _) key
theorem s_eqI : FTold Try.prog 28 selfIS := walkedF (fs := fs) (ss := ss_eqI) (loop := loops_eqI) tysOk mixed fnsOk ssOk_eqI 10 28 [L64, L64] [.bool] rfl _ fun (l, m) r h => (t_eqI l m).trans (p_eqI l m r h)
theorem bif_iffd {b : Bool} {p q : Prop} {t : Option Bool} (hb : b = true ↔ p) (ht : p → ∃ c, t = some c ∧ (c = true ↔ q)) : ∃ c, (bif b then t else some false) = some c ∧ (c = true ↔ p ∧ q) := by
  cases b with
  | true =>
    obtain ⟨c, h1, h2⟩ := ht (hb.1 rfl)
    exact ⟨c, h1, by rw [h2]; exact ⟨fun h => ⟨hb.1 rfl, h⟩, fun h => h.2⟩⟩
  | false => exact ⟨false, rfl, ⟨fun h => (by cases h), fun h => (by have := hb.2 h.1; cases this)⟩⟩
theorem bifn_iffd {b : Bool} {p q : Prop} {t : Option Bool} (hb : b = true ↔ p) (ht : p → ∃ c, t = some c ∧ (c = true ↔ q)) : ∃ c, (bif !b then some false else t) = some c ∧ (c = true ↔ p ∧ q) := by
  cases b with
  | true =>
    obtain ⟨c, h1, h2⟩ := ht (hb.1 rfl)
    exact ⟨c, h1, by rw [h2]; exact ⟨fun h => ⟨hb.1 rfl, h⟩, fun h => h.2⟩⟩
  | false => exact ⟨false, rfl, ⟨fun h => (by cases h), fun h => (by have := hb.2 h.1; cases this)⟩⟩
theorem bne_iffd {a b : Int} {q : Prop} {t : Option Bool} (ht : a = b → ∃ c, t = some c ∧ (c = true ↔ q)) : ∃ c, (bif a != b then some false else t) = some c ∧ (c = true ↔ a = b ∧ q) := by
  have : (a != b) = !(a == b) := rfl
  rw [this]
  exact bifn_iffd (beq_iff a b) ht
theorem and2 {a b : Prop} [Decidable a] [Decidable b] : (decide a && decide b) = true ↔ a ∧ b := by rw [Bool.and_eq_true, decide_eq_true_iff, decide_eq_true_iff]
def seedG (x : Int) : Option Bool := some (decide (0 ≤ x) && decide (x ≤ 2147483647))
def seedS : FSpec := ⟨[I64], [.bool], seedG⟩
def loops_isSeed (_ _ _ : Nat) : Option LSpec := none
noncomputable def ss_isSeed : List (Nat × FSpec) := [(84, withinS)]
theorem ssOk_isSeed : FTolds Try.prog ss_isSeed := ⟨s_within, trivial⟩
noncomputable def Γ_isSeed : Ctx := ctxOf Try.prog tys fs ss_isSeed loops_isSeed
noncomputable def d_isSeed (x : Int) : Option (Bool) := Option.bind (withinG (x, 0, 2147483647)) fun (r0 : Bool) => (some (r0))
theorem t_isSeed (x : Int) : (fnT Γ_isSeed 10 85 [I64] [.bool] x).den = d_isSeed x := by kernel_rfl
theorem p_isSeed (x : Int) (r : Bool) (h : seedG x = some r) : d_isSeed x = some r := by
  exact h
theorem s_isSeed : FTold Try.prog 85 seedS := walkedF (fs := fs) (ss := ss_isSeed) (loop := loops_isSeed) tysOk mixed fnsOk ssOk_isSeed 10 85 [I64] [.bool] rfl _ fun x r h => (t_isSeed x).trans (p_isSeed x r h)
def loops_l05Seed (_ _ _ : Nat) : Option LSpec := none
noncomputable def ss_l05Seed : List (Nat × FSpec) := [(77, withinS)]
theorem ssOk_l05Seed : FTolds Try.prog ss_l05Seed := ⟨s_l00In, trivial⟩
noncomputable def Γ_l05Seed : Ctx := ctxOf Try.prog tys fs ss_l05Seed loops_l05Seed
noncomputable def d_l05Seed (x : Int) : Option (Bool) := Option.bind (withinG (x, 0, 2147483647)) fun (r0 : Bool) => (some (r0))
theorem t_l05Seed (x : Int) : (fnT Γ_l05Seed 10 78 [I64] [.bool] x).den = d_l05Seed x := by kernel_rfl
theorem p_l05Seed (x : Int) (r : Bool) (h : seedG x = some r) : d_l05Seed x = some r := by
  exact h
theorem s_l05Seed : FTold Try.prog 78 seedS := walkedF (fs := fs) (ss := ss_l05Seed) (loop := loops_l05Seed) tysOk mixed fnsOk ssOk_l05Seed 10 78 [I64] [.bool] rfl _ fun x r h => (t_l05Seed x).trans (p_l05Seed x r h)
def areB (p q : Int) (l : LI) : Bool := l.all fun n => decide (p ≤ n) && decide (n ≤ q)
def areG (x : Int × Int × LI) : Option Bool := if x.2.2.length < 2 ^ 62 then some (areB x.1 x.2.1 x.2.2) else none
def areS : FSpec := ⟨[I64, I64, L64], [.bool], areG⟩
theorem are_yes {p q : Int} {l : LI} (h : ∀ i, i < l.length → (decide (p ≤ l.getD i 0) && decide (l.getD i 0 ≤ q)) = true) : areB p q l = true :=
  List.all_eq_true.2 fun x hx => by
    obtain ⟨j, hj, rfl⟩ := List.getElem_of_mem hx
    have := h j hj
    simpa [List.getD_eq_getElem?_getD, hj] using this
theorem are_no {p q : Int} {l : LI} {i : Nat} (hi : i < l.length) (h : (decide (p ≤ l.getD i 0) && decide (l.getD i 0 ≤ q)) = false) : areB p q l = false := by
  unfold areB
  rw [List.all_eq_false]
  refine ⟨l[i], List.getElem_mem _, ?_⟩
  rw [show l.getD i 0 = l[i] by simp [List.getD_eq_getElem?_getD, hi]] at h
  rw [h]; decide
def L_areWithin_1 : LSpec := ⟨[0, 1, 7, 8], ⟨Shs.at 19 [(0, (.slc 2)), (1, (.fn (Fn.func 146) .nil (.cons (.ptr 1028 0 0) (.cons (.ptr 1029 0 0) .nil)))), (7, (.int IntKind.i64)), (8, (.int IntKind.i64))], [(2, (.arr false (EK.int IntKind.i64))), (1028, (.vals true (.cons (.int IntKind.i64) .nil))), (1029, (.vals true (.cons (.int IntKind.i64) .nil)))]⟩, [⟨.ret, [4], ⟨Shs.at 19 [(4, (.int IntKind.i64))], [(2, (.arr false (EK.int IntKind.i64))), (1028, (.vals true (.cons (.int IntKind.i64) .nil))), (1029, (.vals true (.cons (.int IntKind.i64) .nil)))]⟩⟩, ⟨.ext 0, [], ⟨Shs.at 19 [], [(2, (.arr false (EK.int IntKind.i64))), (1028, (.vals true (.cons (.int IntKind.i64) .nil))), (1029, (.vals true (.cons (.int IntKind.i64) .nil)))]⟩⟩], fun _ => bigN⟩
def loops_areWithin (f k n : Nat) : Option LSpec := bif (Nat.beq f 182 && Nat.beq k 2 && Nat.beq n 1058824) then some L_areWithin_1 else none
abbrev S_areWithin_1 : Type := ((Nat × ((Unit × Unit) × (Int × (Int × Unit)))) × ((List Int) × ((Int × Unit) × ((Int × Unit) × Unit))))
abbrev R_areWithin_1 : Type := (((Int × Unit) × ((List Int) × ((Int × Unit) × ((Int × Unit) × Unit)))) ⊕ (Unit × ((List Int) × ((Int × Unit) × ((Int × Unit) × Unit)))))
noncomputable def B_areWithin_1 (y : S_areWithin_1) : Option (S_areWithin_1 ⊕ R_areWithin_1) := bif decide (y.1.2.2.2.1 < y.1.2.2.1) then (bif inB y.1.2.2.2.1 y.1.1 then (Option.bind (withinG (List.getD y.2.1 (0 + Int.toNat y.1.2.2.2.1) (0 : Int), y.2.2.1.1, y.2.2.2.1.1)) fun (r1 : Bool) => (bif !r1 then (some (Sum.inr (Sum.inl (((y.1.2.2.2.1, ()), (y.2.1, ((y.2.2.1.1, ()), ((y.2.2.2.1.1, ()), ())))))))) else (some (Sum.inl (((y.1.1, (((), ()), (y.1.2.2.1, (IntKind.i64.wrap (y.1.2.2.2.1 + 1), ())))), (y.2.1, ((y.2.2.1.1, ()), ((y.2.2.2.1.1, ()), ()))))))))) else (none)) else (some (Sum.inr (Sum.inr (((), (y.2.1, ((y.2.2.1.1, ()), ((y.2.2.2.1.1, ()), ()))))))))
noncomputable def ss_areWithin : List (Nat × FSpec) := [(84, withinS)]
theorem ssOk_areWithin : FTolds Try.prog ss_areWithin := ⟨s_within, trivial⟩
noncomputable def Γ_areWithin : Ctx := ctxOf Try.prog tys fs ss_areWithin loops_areWithin
noncomputable def d_areWithin (p q : Int) (l : LI) : Option (Bool) := Option.bind (iter B_areWithin_1 bigN (((List.length l, (((), ()), (((List.length l : Nat) : Int), (0, ())))), (l, ((p, ()), ((q, ()), ())))))) fun (r0 : (((Int × Unit) × ((List Int) × ((Int × Unit) × ((Int × Unit) × Unit)))) ⊕ (Unit × ((List Int) × ((Int × Unit) × ((Int × Unit) × Unit)))))) => (match r0 with | .inl x2 => (some (!decide (x2.1.1 ≥ 0))) | .inr x2 => (some (true)))
theorem t_areWithin (p q : Int) (l : LI) : (fnT Γ_areWithin 10 86 [I64, I64, L64] [.bool] (p, q, l)).den = d_areWithin p q l := by kernel_rfl
theorem p_areWithin (p q : Int) (l : LI) (r : Bool) (h : areG (p, q, l) = some r) : d_areWithin p q l = some r := by
  obtain ⟨hb, rfl⟩ := if_some (show (if l.length < 2 ^ 62 then some (areB p q l) else none) = some r from h)
  unfold d_areWithin
  have key := iter_find' (B := B_areWithin_1) (fun i => ((l.length, (((), ()), ((l.length : Int), ((i : Int), ())))), (l, ((p, ()), ((q, ()), ()))))) 0 l.length (fun i => if (decide (p ≤ l.getD i 0) && decide (l.getD i 0 ≤ q)) = true then none else some (.inl (((i : Int), ()), (l, ((p, ()), ((q, ()), ())))))) (.inr ((), (l, ((p, ()), ((q, ()), ()))))) (Nat.zero_le _) hb (fun i _ hi => by
    unfold B_areWithin_1 withinG
    simp only [ltT hi, inB_of hi, inc64 hi hb, cond_true, Int.toNat_natCast, Nat.zero_add, Option.bind_some]
    by_cases e : (decide (p ≤ l.getD i 0) && decide (l.getD i 0 ≤ q)) = true
    · rw [if_pos e, e]; rfl
    · rw [if_neg e, Bool.eq_false_iff.2 e]; rfl) (by
    unfold B_areWithin_1
    simp only [ltF, cond_false])
  refine (congrArg (fun z => Option.bind z _) (show iter B_areWithin_1 bigN _ = _ from key)).trans ?_
  cases hf : firstOf (fun i => if (decide (p ≤ l.getD i 0) && decide (l.getD i 0 ≤ q)) = true then none else some (.inl (((i : Int), ()), (l, ((p, ()), ((q, ()), ())))) : R_areWithin_1)) (l.length - 0) 0 with
  | none =>
    rw [are_yes fun i hi => by
      have := (firstOf_none _ _ _).1 hf i (Nat.zero_le _) (by omega)
      by_cases e : (decide (p ≤ l.getD i 0) && decide (l.getD i 0 ≤ q)) = true
      · exact e
      · rw [if_neg e] at this; cases this]
    rfl
  | some z =>
    obtain ⟨j, _, hj, hs⟩ := firstOf_some _ _ _ _ hf
    by_cases e : (decide (p ≤ l.getD j 0) && decide (l.getD j 0 ≤ q)) = true
    · rw [if_pos e] at hs; cases hs
    · rw [if_neg e] at hs
      cases hs
      rw [are_no (i := j) (by omega) (Bool.eq_false_iff.2 e)]
      show some (!decide ((j : Int) ≥ 0)) = some false
      rw [decide_eq_true (by omega)]; rfl
theorem s_areWithin : FTold Try.prog 86 areS := walkedF (fs := fs) (ss := ss_areWithin) (loop := loops_areWithin) tysOk mixed fnsOk ssOk_areWithin 10 86 [I64, I64, L64] [.bool] rfl _ fun (p, q, l) r h => (t_areWithin p q l).trans (p_areWithin p q l r h)
def heldIG (x : LI × Int) : Option Int := if x.1 = imarks x.2 x.1.length ∧ x.1.length < 2 ^ 40 ∧ 0 ≤ x.2 ∧ x.2 < 2 ^ 60 then some (x.2 + x.1.length) else none
def heldIS : FSpec := ⟨[L64, I64], [I64], heldIG⟩
def L_heldI_1 : LSpec := ⟨[0, 1, 5], ⟨Shs.at 21 [(0, (.slc 2)), (1, (.int IntKind.i64)), (5, (.int IntKind.i64))], [(2, (.arr false (EK.int IntKind.i64)))]⟩, [⟨.ret, [4], ⟨Shs.at 21 [(4, (.int IntKind.i64))], [(2, (.arr false (EK.int IntKind.i64)))]⟩⟩, ⟨.ext 0, [1], ⟨Shs.at 21 [(1, (.int IntKind.i64))], [(2, (.arr false (EK.int IntKind.i64)))]⟩⟩], fun _ => bigN⟩
def loops_heldI (f k n : Nat) : Option LSpec := bif (Nat.beq f 33 && Nat.beq k 2 && Nat.beq n 1) then some L_heldI_1 else none
abbrev S_heldI_1 : Type := ((Nat × (Int × (Int × Unit))) × ((List Int) × Unit))
abbrev R_heldI_1 : Type := (((Int × Unit) × ((List Int) × Unit)) ⊕ ((Int × Unit) × ((List Int) × Unit)))
noncomputable def B_heldI_1 (y : S_heldI_1) : Option (S_heldI_1 ⊕ R_heldI_1) := bif decide (y.1.2.2.1 < (y.1.1 : Int)) then (bif inB y.1.2.2.1 y.1.1 then (bif List.getD y.2.1 (0 + Int.toNat y.1.2.2.1) (0 : Int) != y.1.2.1 then (some (Sum.inr (Sum.inl (((-1, ()), (y.2.1, ())))))) else (some (Sum.inl (((y.1.1, (IntKind.i64.wrap (y.1.2.1 + 1), (IntKind.i64.wrap (y.1.2.2.1 + 1), ()))), (y.2.1, ())))))) else (none)) else (some (Sum.inr (Sum.inr (((y.1.2.1, ()), (y.2.1, ()))))))
noncomputable def ss_heldI : List (Nat × FSpec) := []
theorem ssOk_heldI : FTolds Try.prog ss_heldI := trivial
noncomputable def Γ_heldI : Ctx := ctxOf Try.prog tys fs ss_heldI loops_heldI
noncomputable def d_heldI (l : LI) (k : Int) : Option (Int) := Option.bind (iter B_heldI_1 bigN (((List.length l, (k, (0, ()))), (l, ())))) fun (r0 : (((Int × Unit) × ((List Int) × Unit)) ⊕ ((Int × Unit) × ((List Int) × Unit)))) => (match r0 with | .inl x1 => (some (x1.1.1)) | .inr x1 => (some (x1.1.1)))
theorem t_heldI (l : LI) (k : Int) : (fnT Γ_heldI 10 33 [L64, I64] [I64] (l, k)).den = d_heldI l k := by kernel_rfl
theorem p_heldI (l : LI) (k : Int) (r : Int) (h : heldIG (l, k) = some r) : d_heldI l k = some r := by
  obtain ⟨⟨e, hb, h0, h1⟩, rfl⟩ := if_some (show (if l = imarks k (List.length l) ∧ List.length l < 2 ^ 40 ∧ 0 ≤ k ∧ k < 2 ^ 60 then some (k + (List.length l : Int)) else none) = some r from h)
  unfold d_heldI
  have key := iter_for (B := B_heldI_1) (fun i => ((l.length, (k + i, ((i : Int), ()))), (l, ()))) 0 l.length (.inr ((k + (l.length : Int), ()), (l, ()))) (Nat.zero_le _) (by omega) (fun i _ hi => by
    have g : l.getD i (0 : Int) = k + i := by
      have := imarks_get k l.length i hi
      rw [← e] at this; exact this
    have w : IntKind.i64.wrap (k + (i : Int) + 1) = k + ((i + 1 : Nat) : Int) := by rw [wrap64 (by omega) (by omega)]; omega
    unfold B_heldI_1
    simp only [ltT hi, inB_of hi, inc64 hi (show l.length < 2 ^ 62 by omega), cond_true, Int.toNat_natCast, Nat.zero_add, g, eq_bne, w, cond_false]) (by
    unfold B_heldI_1
    simp only [ltF, cond_false])
  have e0 : k + ((0 : Nat) : Int) = k := by omega
  simp only [e0] at key
  exact congrArg (fun z => Option.bind z _) key
theorem s_heldI : FTold Try.prog 33 heldIS := walkedF (fs := fs) (ss := ss_heldI) (loop := loops_heldI) tysOk mixed fnsOk ssOk_heldI 10 33 [L64, I64] [I64] rfl _ fun (l, k) r h => (t_heldI l k).trans (p_heldI l k r h)
end Go.Proofs.Ytjggcekliaalgaa
