/- Small functions of the program and of the reference, told as plain functions. No condition. -/
import Derived.Test.YtjggcekliaalgaaKC
import Derived.Test.YtjggcekliaalgaaLE
namespace Go.Proofs.Ytjggcekliaalgaa
open Go.Ab
set_option maxRecDepth 100000 in
theorem s_bits64 : FTold Try.prog 196 bits64S := ftold (bits64_ok (fn := Try.f196) Try.func196 rfl rfl rfl rfl)
set_option maxRecDepth 100000 in
theorem s_from64 : FTold Try.prog 195 from64S := ftold (from64_ok (fn := Try.f195) Try.func195 rfl rfl rfl rfl)
def finG (x : Fl .f32) : Option Bool := some (fin x)
def finS : FSpec := ⟨[F32], [.bool], finG⟩
def loops_IsFinite (_ _ _ : Nat) : Option LSpec := none
noncomputable def ss_IsFinite : List (Nat × FSpec) := [(196, bits64S), (195, from64S)]
theorem ssOk_IsFinite : FTolds Try.prog ss_IsFinite := ⟨s_bits64, s_from64, trivial⟩
noncomputable def Γ_IsFinite : Ctx := ctxOf Try.prog tys fs ss_IsFinite loops_IsFinite
noncomputable def d_IsFinite (x : Fl .f32) : Option (Bool) := bif !fne (fwide x) (fwide x) then (bif true then (Option.bind (fbits .f64 (fwide x)) fun (r0 : Int) => (Option.bind (ofBits .f64 (ibits BinOp.andNot IntKind.u64 r0 9223372036854775808)) fun (r1 : (Fl .f64)) => (some (!fgt r1 (Fl.of .f64 9218868437227405311))))) else (bif false then (some (!fgt (fneg (fwide x)) (Fl.of .f64 9218868437227405311))) else (some (!fgt (fwide x) (Fl.of .f64 9218868437227405311))))) else (some (false))
theorem t_IsFinite (x : Fl .f32) : (fnT Γ_IsFinite 10 106 [F32] [.bool] x).den = d_IsFinite x := by kernel_rfl
theorem p_IsFinite (x : Fl .f32) (r : Bool) (h : finG x = some r) : d_IsFinite x = some r := by
  refine Eq.trans ?_ h
  show (bif !fne (fwide x) (fwide x) then (fbits .f64 (fwide x)).bind (fun r0 => (ofBits .f64 (ibits .andNot .u64 r0 9223372036854775808)).bind fun r1 => some (!fgt r1 (Fl.of .f64 9218868437227405311))) else some false) = some (fin x)
  rw [isInf_tree, fin_wide]
theorem s_IsFinite : FTold Try.prog 106 finS := walkedF (fs := fs) (ss := ss_IsFinite) (loop := loops_IsFinite) tysOk mixed fnsOk ssOk_IsFinite 10 106 [F32] [.bool] rfl _ fun x r h => (t_IsFinite x).trans (p_IsFinite x r h)
def loops_l01Finite (_ _ _ : Nat) : Option LSpec := none
noncomputable def ss_l01Finite : List (Nat × FSpec) := []
theorem ssOk_l01Finite : FTolds Try.prog ss_l01Finite := trivial
noncomputable def Γ_l01Finite : Ctx := ctxOf Try.prog tys fs ss_l01Finite loops_l01Finite
noncomputable def d_l01Finite (x : Fl .f32) : Option (Bool) := some (feq (fsub x x) (Fl.of .f32 0))
theorem t_l01Finite (x : Fl .f32) : (fnT Γ_l01Finite 10 102 [F32] [.bool] x).den = d_l01Finite x := by kernel_rfl
theorem p_l01Finite (x : Fl .f32) (r : Bool) (h : finG x = some r) : d_l01Finite x = some r := by
  refine Eq.trans ?_ h
  show some (feq (fsub x x) (Fl.of .f32 0)) = some (fin x)
  rw [feq_sub_self]
theorem s_l01Finite : FTold Try.prog 102 finS := walkedF (fs := fs) (ss := ss_l01Finite) (loop := loops_l01Finite) tysOk mixed fnsOk ssOk_l01Finite 10 102 [F32] [.bool] rfl _ fun x r h => (t_l01Finite x).trans (p_l01Finite x r h)
def withinG (x : Int × Int × Int) : Option Bool := some (decide (x.2.1 ≤ x.1) && decide (x.1 ≤ x.2.2))
def withinS : FSpec := ⟨[I64, I64, I64], [.bool], withinG⟩
def loops_within (_ _ _ : Nat) : Option LSpec := none
noncomputable def ss_within : List (Nat × FSpec) := []
theorem ssOk_within : FTolds Try.prog ss_within := trivial
noncomputable def Γ_within : Ctx := ctxOf Try.prog tys fs ss_within loops_within
noncomputable def d_within (a b c : Int) : Option (Bool) := bif decide (b ≤ a) then (some (decide (a ≤ c))) else (some (false))
theorem t_within (a b c : Int) : (fnT Γ_within 10 84 [I64, I64, I64] [.bool] (a, b, c)).den = d_within a b c := by kernel_rfl
theorem p_within (a b c : Int) (r : Bool) (h : withinG (a, b, c) = some r) : d_within a b c = some r := by
  refine Eq.trans ?_ h
  unfold d_within withinG
  simp only
  cases decide (b ≤ a) <;> rfl
theorem s_within : FTold Try.prog 84 withinS := walkedF (fs := fs) (ss := ss_within) (loop := loops_within) tysOk mixed fnsOk ssOk_within 10 84 [I64, I64, I64] [.bool] rfl _ fun (a, b, c) r h => (t_within a b c).trans (p_within a b c r h)
def loops_l00In (_ _ _ : Nat) : Option LSpec := none
noncomputable def ss_l00In : List (Nat × FSpec) := []
theorem ssOk_l00In : FTolds Try.prog ss_l00In := trivial
noncomputable def Γ_l00In : Ctx := ctxOf Try.prog tys fs ss_l00In loops_l00In
noncomputable def d_l00In (a b c : Int) : Option (Bool) := bif decide (a ≥ b) then (some (decide (a ≤ c))) else (some (false))
theorem t_l00In (a b c : Int) : (fnT Γ_l00In 10 77 [I64, I64, I64] [.bool] (a, b, c)).den = d_l00In a b c := by kernel_rfl
theorem p_l00In (a b c : Int) (r : Bool) (h : withinG (a, b, c) = some r) : d_l00In a b c = some r := by
  refine Eq.trans ?_ h
  unfold d_l00In withinG
  simp only
  rw [show decide (a ≥ b) = decide (b ≤ a) from rfl]
  cases decide (b ≤ a) <;> rfl
theorem s_l00In : FTold Try.prog 77 withinS := walkedF (fs := fs) (ss := ss_l00In) (loop := loops_l00In) tysOk mixed fnsOk ssOk_l00In 10 77 [I64, I64, I64] [.bool] rfl _ fun (a, b, c) r h => (t_l00In a b c).trans (p_l00In a b c r h)
def notFinG (x : Fl .f32) : Option Bool := some (!fin x)
def notFinS : FSpec := ⟨[F32], [.bool], notFinG⟩
def loops_areFin1 (_ _ _ : Nat) : Option LSpec := none
noncomputable def ss_areFin1 : List (Nat × FSpec) := [(106, finS)]
theorem ssOk_areFin1 : FTolds Try.prog ss_areFin1 := ⟨s_IsFinite, trivial⟩
noncomputable def Γ_areFin1 : Ctx := ctxOf Try.prog tys fs ss_areFin1 loops_areFin1
noncomputable def d_areFin1 (x : Fl .f32) : Option (Bool) := Option.bind (finG x) fun (r0 : Bool) => (some (!r0))
theorem t_areFin1 (x : Fl .f32) : (fnT Γ_areFin1 10 172 [F32] [.bool] x).den = d_areFin1 x := by kernel_rfl
theorem p_areFin1 (x : Fl .f32) (r : Bool) (h : notFinG x = some r) : d_areFin1 x = some r := by
  exact h
theorem s_areFin1 : FTold Try.prog 172 notFinS := walkedF (fs := fs) (ss := ss_areFin1) (loop := loops_areFin1) tysOk mixed fnsOk ssOk_areFin1 10 172 [F32] [.bool] rfl _ fun x r h => (t_areFin1 x).trans (p_areFin1 x r h)
def allFinG (l : LS) : Option Bool := if l.length < 2 ^ 62 then some (l.all fin) else none
def allFinS : FSpec := ⟨[L32], [.bool], allFinG⟩
def L_areFinite_1 : LSpec := ⟨[0, 1, 7, 8], ⟨Shs.at 19 [(0, (.slc 2)), (1, (.fn (Fn.func 172) .nil .nil)), (7, (.int IntKind.i64)), (8, (.int IntKind.i64))], [(2, (.arr false (EK.flt FloatKind.f32)))]⟩, [⟨.ret, [4], ⟨Shs.at 19 [(4, (.int IntKind.i64))], [(2, (.arr false (EK.flt FloatKind.f32)))]⟩⟩, ⟨.ext 0, [], ⟨Shs.at 19 [], [(2, (.arr false (EK.flt FloatKind.f32)))]⟩⟩], fun _ => bigN⟩
def loops_areFinite (f k n : Nat) : Option LSpec := bif (Nat.beq f 198 && Nat.beq k 2 && Nat.beq n 1053704) then some L_areFinite_1 else none
abbrev S_areFinite_1 : Type := ((Nat × ((Unit × Unit) × (Int × (Int × Unit)))) × ((List (Fl .f32)) × Unit))
abbrev R_areFinite_1 : Type := (((Int × Unit) × ((List (Fl .f32)) × Unit)) ⊕ (Unit × ((List (Fl .f32)) × Unit)))
noncomputable def B_areFinite_1 (y : S_areFinite_1) : Option (S_areFinite_1 ⊕ R_areFinite_1) := bif decide (y.1.2.2.2.1 < y.1.2.2.1) then (bif inB y.1.2.2.2.1 y.1.1 then (Option.bind (notFinG (List.getD y.2.1 (0 + Int.toNat y.1.2.2.2.1) dN)) fun (r1 : Bool) => (bif r1 then (some (Sum.inr (Sum.inl (((y.1.2.2.2.1, ()), (y.2.1, ())))))) else (some (Sum.inl (((y.1.1, (((), ()), (y.1.2.2.1, (IntKind.i64.wrap (y.1.2.2.2.1 + 1), ())))), (y.2.1, ()))))))) else (none)) else (some (Sum.inr (Sum.inr (((), (y.2.1, ()))))))
noncomputable def ss_areFinite : List (Nat × FSpec) := [(172, notFinS)]
theorem ssOk_areFinite : FTolds Try.prog ss_areFinite := ⟨s_areFin1, trivial⟩
noncomputable def Γ_areFinite : Ctx := ctxOf Try.prog tys fs ss_areFinite loops_areFinite
noncomputable def d_areFinite (l : LS) : Option (Bool) := Option.bind (iter B_areFinite_1 bigN (((List.length l, (((), ()), (((List.length l : Nat) : Int), (0, ())))), (l, ())))) fun (r0 : (((Int × Unit) × ((List (Fl .f32)) × Unit)) ⊕ (Unit × ((List (Fl .f32)) × Unit)))) => (match r0 with | .inl x2 => (some (!decide (x2.1.1 ≥ 0))) | .inr x2 => (some (true)))
theorem t_areFinite (l : LS) : (fnT Γ_areFinite 10 112 [L32] [.bool] l).den = d_areFinite l := by kernel_rfl
abbrev stopF (l : LS) (i : Nat) : Option R_areFinite_1 := if fin (l.getD i dN) = true then none else some (.inl (((i : Int), ()), (l, ())))
theorem all_fin (l : LS) : (firstOf (stopF l) l.length 0 = none ∧ l.all fin = true) ∨ (∃ j : Nat, firstOf (stopF l) l.length 0 = some (.inl (((j : Int), ()), (l, ()))) ∧ l.all fin = false) := by
  cases hf : firstOf (stopF l) l.length 0 with
  | none =>
    refine .inl ⟨rfl, List.all_eq_true.2 fun x hx => ?_⟩
    obtain ⟨j, hj, rfl⟩ := List.getElem_of_mem hx
    have := (firstOf_none _ _ _).1 hf j (Nat.zero_le _) (by omega)
    unfold stopF at this
    split at this
    · rename_i h; simpa [List.getD_eq_getElem?_getD, hj] using h
    · cases this
  | some r =>
    obtain ⟨j, _, hj, hs⟩ := firstOf_some _ _ _ _ hf
    unfold stopF at hs
    split at hs
    · cases hs
    · rename_i h
      cases hs
      refine .inr ⟨j, rfl, ?_⟩
      rw [List.all_eq_false]
      refine ⟨l[j]'(by omega), List.getElem_mem _, ?_⟩
      have hjl : j < l.length := by omega
      simpa [List.getD_eq_getElem?_getD, hjl] using h
theorem p_areFinite (l : LS) (r : Bool) (h : allFinG l = some r) : d_areFinite l = some r := by
  obtain ⟨hb, rfl⟩ := if_some (show (if List.length l < 2 ^ 62 then some (List.all l fin) else none) = some r from h)
  unfold d_areFinite
  have key := iter_find' (B := B_areFinite_1) (fun i => ((l.length, (((), ()), ((l.length : Int), ((i : Int), ())))), (l, ()))) 0 l.length (stopF l) (.inr ((), (l, ()))) (Nat.zero_le _) hb (fun i _ hi => by
    unfold B_areFinite_1 stopF notFinG
    simp only [ltT hi, inB_of hi, inc64 hi hb, cond_true, Int.toNat_natCast, Nat.zero_add, Option.bind_some]
    by_cases e : fin (l.getD i dN) = true
    · rw [if_pos e, e]; rfl
    · rw [if_neg e, Bool.eq_false_iff.2 e]; rfl) (by
    unfold B_areFinite_1
    simp only [ltF, cond_false])
  refine (congrArg (fun z => Option.bind z _) key).trans ?_
  rcases all_fin l with ⟨h1, h2⟩ | ⟨j, h1, h2⟩
  · rw [Nat.sub_zero, h1, h2]; rfl
  · rw [Nat.sub_zero, h1, h2]
    show some (!decide ((j : Int) ≥ 0)) = some false
    rw [decide_eq_true (by omega)]; rfl
theorem s_areFinite : FTold Try.prog 112 allFinS := walkedF (fs := fs) (ss := ss_areFinite) (loop := loops_areFinite) tysOk mixed fnsOk ssOk_areFinite 10 112 [L32] [.bool] rfl _ fun l r h => (t_areFinite l).trans (p_areFinite l r h)
def selfFG (x : Fl .f64 × Fl .f64) : Option Bool := if x.1 = x.2 then some true else none
def selfFS : FSpec := ⟨[F64, F64], [.bool], selfFG⟩
def loops_sameFloat (_ _ _ : Nat) : Option LSpec := none
noncomputable def ss_sameFloat : List (Nat × FSpec) := []
theorem ssOk_sameFloat : FTolds Try.prog ss_sameFloat := trivial
noncomputable def Γ_sameFloat : Ctx := ctxOf Try.prog tys fs ss_sameFloat loops_sameFloat
noncomputable def d_sameFloat (x y : Fl .f64) : Option (Bool) := bif fne x x then (bif fne x x then (some (fne y y)) else (some (false))) else (bif fne y y then (bif fne x x then (some (fne y y)) else (some (false))) else (bif feq x (Fl.of .f64 0) then (bif feq y (Fl.of .f64 0) then (some (fgt (fdiv (Fl.of .f64 4607182418800017408) x) (Fl.of .f64 0) == fgt (fdiv (Fl.of .f64 4607182418800017408) y) (Fl.of .f64 0))) else (some (feq x y))) else (some (feq x y))))
theorem t_sameFloat (x y : Fl .f64) : (fnT Γ_sameFloat 10 135 [F64, F64] [.bool] (x, y)).den = d_sameFloat x y := by kernel_rfl
theorem p_sameFloat (x y : Fl .f64) (r : Bool) (h : selfFG (x, y) = some r) : d_sameFloat x y = some r := by
  obtain ⟨rfl, rfl⟩ := if_some (show (if x = y then some true else none) = some r from h)
  unfold d_sameFloat
  exact self_tree x _ _
theorem s_sameFloat : FTold Try.prog 135 selfFS := walkedF (fs := fs) (ss := ss_sameFloat) (loop := loops_sameFloat) tysOk mixed fnsOk ssOk_sameFloat 10 135 [F64, F64] [.bool] rfl _ fun (x, y) r h => (t_sameFloat x y).trans (p_sameFloat x y r h)
def selfLG (x : LS × LS) : Option Bool := if x.1 = x.2 ∧ x.1.length < 2 ^ 62 then some true else none
def selfLS : FSpec := ⟨[L32, L32], [.bool], selfLG⟩
def L_eqL_1 : LSpec := ⟨[0, 1, 5], ⟨Shs.at 29 [(0, (.slc 2)), (1, (.slc 3)), (5, (.int IntKind.i64))], [(2, (.arr false (EK.flt FloatKind.f32))), (3, (.arr false (EK.flt FloatKind.f32)))]⟩, [⟨.ret, [4], ⟨Shs.at 29 [(4, .bool)], [(2, (.arr false (EK.flt FloatKind.f32))), (3, (.arr false (EK.flt FloatKind.f32)))]⟩⟩, ⟨.ext 0, [], ⟨Shs.at 29 [], [(2, (.arr false (EK.flt FloatKind.f32))), (3, (.arr false (EK.flt FloatKind.f32)))]⟩⟩], fun _ => bigN⟩
def loops_eqL (f k n : Nat) : Option LSpec := bif (Nat.beq f 66 && Nat.beq k 4 && Nat.beq n 1) then some L_eqL_1 else none
abbrev S_eqL_1 : Type := ((Nat × (Nat × (Int × Unit))) × ((List (Fl .f32)) × ((List (Fl .f32)) × Unit)))
abbrev R_eqL_1 : Type := (((Bool × Unit) × ((List (Fl .f32)) × ((List (Fl .f32)) × Unit))) ⊕ (Unit × ((List (Fl .f32)) × ((List (Fl .f32)) × Unit))))
noncomputable def B_eqL_1 (y : S_eqL_1) : Option (S_eqL_1 ⊕ R_eqL_1) := bif decide (y.1.2.2.1 < (y.1.1 : Int)) then (bif inB y.1.2.2.1 y.1.1 then (bif inB y.1.2.2.1 y.1.2.1 then (Option.bind (selfFG (fwide (List.getD y.2.1 (0 + Int.toNat y.1.2.2.1) dN), fwide (List.getD y.2.2.1 (0 + Int.toNat y.1.2.2.1) dN))) fun (r1 : Bool) => (bif !r1 then (some (Sum.inr (Sum.inl (((false, ()), (y.2.1, (y.2.2.1, ()))))))) else (some (Sum.inl (((y.1.1, (y.1.2.1, (IntKind.i64.wrap (y.1.2.2.1 + 1), ()))), (y.2.1, (y.2.2.1, ())))))))) else (none)) else (none)) else (some (Sum.inr (Sum.inr (((), (y.2.1, (y.2.2.1, ())))))))
noncomputable def ss_eqL : List (Nat × FSpec) := [(135, selfFS)]
theorem ssOk_eqL : FTolds Try.prog ss_eqL := ⟨s_sameFloat, trivial⟩
noncomputable def Γ_eqL : Ctx := ctxOf Try.prog tys fs ss_eqL loops_eqL
noncomputable def d_eqL (l m : LS) : Option (Bool) := bif ((List.length l : Nat) : Int) != ((List.length m : Nat) : Int) then (some (false)) else (Option.bind (iter B_eqL_1 bigN (((List.length l, (List.length m, (0, ()))), (l, (m, ()))))) fun (r0 : (((Bool × Unit) × ((List (Fl .f32)) × ((List (Fl .f32)) × Unit))) ⊕ (Unit × ((List (Fl .f32)) × ((List (Fl .f32)) × Unit))))) => (match r0 with | .inl x2 => (some (x2.1.1)) | .inr x2 => (some (true))))
theorem t_eqL (l m : LS) : (fnT Γ_eqL 10 66 [L32, L32] [.bool] (l, m)).den = d_eqL l m := by kernel_rfl
theorem p_eqL (l m : LS) (r : Bool) (h : selfLG (l, m) = some r) : d_eqL l m = some r := by
  obtain ⟨⟨rfl, hb⟩, rfl⟩ := if_some (show (if l = m ∧ List.length l < 2 ^ 62 then some true else none) = some r from h)
  unfold d_eqL
  have key := iter_for (B := B_eqL_1) (fun i => ((l.length, (l.length, ((i : Int), ()))), (l, (l, ())))) 0 l.length (.inr ((), (l, (l, ())))) (Nat.zero_le _) hb (fun i _ hi => by
    have h5 : selfFG (fwide (l.getD i dN), fwide (l.getD i dN)) = some true := if_pos rfl
    unfold B_eqL_1
    simp only [ltT hi, inB_of hi, inc64 hi hb, cond_true, Int.toNat_natCast, Nat.zero_add, h5]
    rfl) (by
    unfold B_eqL_1
    simp only [ltF, cond_false])
  have h0 : ((l.length : Int) != (l.length : Int)) = false := by simp
  rw [h0, cond_false]
  exact congrArg (fun z => Option.bind z _) key
theorem s_eqL : FTold Try.prog 66 selfLS := walkedF (fs := fs) (ss := ss_eqL) (loop := loops_eqL) tysOk mixed fnsOk ssOk_eqL 10 66 [L32, L32] [.bool] rfl _ fun (l, m) r h => (t_eqL l m).trans (p_eqL l m r h)
def copyG (l : LS) : Option LS := if l.length ≤ 2 ^ 40 then some l else none
def copyS : FSpec := ⟨[L32], [L32], copyG⟩
def L_toL_1 : LSpec := ⟨[0, 3, 4], ⟨Shs.at 22 [(0, (.slc 2)), (3, (.slc 2146435264)), (4, (.int IntKind.i64))], [(2, (.arr false (EK.flt FloatKind.f32))), (2146435264, (.arr true (EK.flt FloatKind.f32)))]⟩, [⟨.ext 0, [3], ⟨Shs.at 22 [(3, (.slc 2146435264))], [(2, (.arr false (EK.flt FloatKind.f32))), (2146435264, (.arr true (EK.flt FloatKind.f32)))]⟩⟩], fun _ => bigN⟩
def loops_toL (f k n : Nat) : Option LSpec := bif (Nat.beq f 61 && Nat.beq k 3 && Nat.beq n 1) then some L_toL_1 else none
abbrev S_toL_1 : Type := ((Nat × (Nat × (Int × Unit))) × ((List (Fl .f32)) × ((List (Fl .f32)) × Unit)))
abbrev R_toL_1 : Type := ((Nat × Unit) × ((List (Fl .f32)) × ((List (Fl .f32)) × Unit)))
noncomputable def B_toL_1 (y : S_toL_1) : Option (S_toL_1 ⊕ R_toL_1) := bif decide (y.1.2.2.1 < (y.1.1 : Int)) then (bif inB y.1.2.2.1 y.1.1 then (bif inB y.1.2.2.1 y.1.2.1 then (some (Sum.inl (((y.1.1, (y.1.2.1, (IntKind.i64.wrap (y.1.2.2.1 + 1), ()))), (y.2.1, (List.set y.2.2.1 (0 + Int.toNat y.1.2.2.1) (List.getD y.2.1 (0 + Int.toNat y.1.2.2.1) dN), ())))))) else (none)) else (none)) else (some (Sum.inr (((y.1.2.1, ()), (y.2.1, (y.2.2.1, ()))))))
noncomputable def ss_toL : List (Nat × FSpec) := []
theorem ssOk_toL : FTolds Try.prog ss_toL := trivial
noncomputable def Γ_toL : Ctx := ctxOf Try.prog tys fs ss_toL loops_toL
noncomputable def d_toL (l : LS) : Option ((List (Fl .f32))) := bif decide (0 ≤ ((List.length l : Nat) : Int)) && decide ((4 : Int) * ((List.length l : Nat) : Int) ≤ (140737488355328 : Int)) then (Option.bind (iter B_toL_1 bigN (((List.length l, ((((List.length l : Nat) : Int)).toNat, (0, ()))), (l, (List.replicate (((List.length l : Nat) : Int)).toNat (Fl.of .f32 0), ()))))) fun (r0 : ((Nat × Unit) × ((List (Fl .f32)) × ((List (Fl .f32)) × Unit)))) => (some (sub r0.2.2.1 0 r0.1.1))) else (none)
theorem t_toL (l : LS) : (fnT Γ_toL 10 61 [L32] [L32] l).den = d_toL l := by kernel_rfl
theorem p_toL (l : LS) (r : (List (Fl .f32))) (h : copyG l = some r) : d_toL l = some r := by
  obtain ⟨hb, rfl⟩ := if_some (show (if List.length l ≤ 2 ^ 40 then some l else none) = some r from h)
  unfold d_toL
  have h1 : decide ((0 : Int) ≤ (l.length : Int)) = true := by simp
  have h2 : decide ((4 : Int) * (l.length : Int) ≤ (140737488355328 : Int)) = true := by simp; omega
  rw [h1, h2]
  have key := iter_big (copy_loop dN l (by omega) l.length 0 (List.replicate l.length (Fl.of .f32 0)) (Nat.zero_add _) (by simp) (by simp)) (by omega)
  simp only [Int.toNat_natCast, Bool.and_self, cond_true]
  refine (congrArg (fun z => Option.bind z _) (show iter B_toL_1 bigN _ = _ from key)).trans ?_
  simp [sub]
theorem s_toL : FTold Try.prog 61 copyS := walkedF (fs := fs) (ss := ss_toL) (loop := loops_toL) tysOk mixed fnsOk ssOk_toL 10 61 [L32] [L32] rfl _ fun l r h => (t_toL l).trans (p_toL l r h)
def heldG (x : LS × Int) : Option Int := if x.1 = marks x.2 x.1.length ∧ x.1.length < 2 ^ 40 ∧ 0 ≤ x.2 ∧ x.2 < 2 ^ 60 then some (x.2 + x.1.length) else none
def heldS : FSpec := ⟨[L32, I64], [I64], heldG⟩
def L_heldL_1 : LSpec := ⟨[0, 1, 5], ⟨Shs.at 22 [(0, (.slc 2)), (1, (.int IntKind.i64)), (5, (.int IntKind.i64))], [(2, (.arr false (EK.flt FloatKind.f32)))]⟩, [⟨.ret, [4], ⟨Shs.at 22 [(4, (.int IntKind.i64))], [(2, (.arr false (EK.flt FloatKind.f32)))]⟩⟩, ⟨.ext 0, [1], ⟨Shs.at 22 [(1, (.int IntKind.i64))], [(2, (.arr false (EK.flt FloatKind.f32)))]⟩⟩], fun _ => bigN⟩
def loops_heldL (f k n : Nat) : Option LSpec := bif (Nat.beq f 68 && Nat.beq k 2 && Nat.beq n 1) then some L_heldL_1 else none
abbrev S_heldL_1 : Type := ((Nat × (Int × (Int × Unit))) × ((List (Fl .f32)) × Unit))
abbrev R_heldL_1 : Type := (((Int × Unit) × ((List (Fl .f32)) × Unit)) ⊕ ((Int × Unit) × ((List (Fl .f32)) × Unit)))
noncomputable def B_heldL_1 (y : S_heldL_1) : Option (S_heldL_1 ⊕ R_heldL_1) := bif decide (y.1.2.2.1 < (y.1.1 : Int)) then (bif inB y.1.2.2.1 y.1.1 then (bif fne (List.getD y.2.1 (0 + Int.toNat y.1.2.2.1) dN) (fofInt .f32 y.1.2.1) then (some (Sum.inr (Sum.inl (((-1, ()), (y.2.1, ())))))) else (some (Sum.inl (((y.1.1, (IntKind.i64.wrap (y.1.2.1 + 1), (IntKind.i64.wrap (y.1.2.2.1 + 1), ()))), (y.2.1, ())))))) else (none)) else (some (Sum.inr (Sum.inr (((y.1.2.1, ()), (y.2.1, ()))))))
noncomputable def ss_heldL : List (Nat × FSpec) := []
theorem ssOk_heldL : FTolds Try.prog ss_heldL := trivial
noncomputable def Γ_heldL : Ctx := ctxOf Try.prog tys fs ss_heldL loops_heldL
noncomputable def d_heldL (l : LS) (k : Int) : Option (Int) := Option.bind (iter B_heldL_1 bigN (((List.length l, (k, (0, ()))), (l, ())))) fun (r0 : (((Int × Unit) × ((List (Fl .f32)) × Unit)) ⊕ ((Int × Unit) × ((List (Fl .f32)) × Unit)))) => (match r0 with | .inl x1 => (some (x1.1.1)) | .inr x1 => (some (x1.1.1)))
theorem t_heldL (l : LS) (k : Int) : (fnT Γ_heldL 10 68 [L32, I64] [I64] (l, k)).den = d_heldL l k := by kernel_rfl
theorem p_heldL (l : LS) (k : Int) (r : Int) (h : heldG (l, k) = some r) : d_heldL l k = some r := by
  obtain ⟨⟨e, hb, h0, h1⟩, rfl⟩ := if_some (show (if l = marks k (List.length l) ∧ List.length l < 2 ^ 40 ∧ 0 ≤ k ∧ k < 2 ^ 60 then some (k + (List.length l : Int)) else none) = some r from h)
  unfold d_heldL
  have key := iter_for (B := B_heldL_1) (fun i => ((l.length, (k + i, ((i : Int), ()))), (l, ()))) 0 l.length (.inr ((k + (l.length : Int), ()), (l, ()))) (Nat.zero_le _) (by omega) (fun i _ hi => by
    have g : l.getD i dN = fofInt .f32 (k + i) := by
      have := marks_get k l.length i hi
      rw [← e] at this; exact this
    have w : IntKind.i64.wrap (k + (i : Int) + 1) = k + ((i + 1 : Nat) : Int) := by rw [wrap64 (by omega) (by omega)]; omega
    unfold B_heldL_1
    simp only [ltT hi, inB_of hi, inc64 hi (show l.length < 2 ^ 62 by omega), cond_true, Int.toNat_natCast, Nat.zero_add, g, fne_ofInt, w, cond_false]) (by
    unfold B_heldL_1
    simp only [ltF, cond_false])
  have e0 : k + ((0 : Nat) : Int) = k := by omega
  simp only [e0] at key
  exact congrArg (fun z => Option.bind z _) key
theorem s_heldL : FTold Try.prog 68 heldS := walkedF (fs := fs) (ss := ss_heldL) (loop := loops_heldL) tysOk mixed fnsOk ssOk_heldL 10 68 [L32, I64] [I64] rfl _ fun (l, k) r h => (t_heldL l k).trans (p_heldL l k r h)
end Go.Proofs.Ytjggcekliaalgaa
