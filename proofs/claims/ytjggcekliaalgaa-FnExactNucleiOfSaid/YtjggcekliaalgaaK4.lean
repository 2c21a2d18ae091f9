/- The program's SlopeAt and TempAt answer as the reference's do, at all arguments. No condition. -/
import Derived.Test.YtjggcekliaalgaaK3
namespace Go.Proofs.Ytjggcekliaalgaa
open Go.Ab
theorem firstOf_map {ρ σ : Type} (f : Nat → Option ρ) (g : ρ → σ) : ∀ m i, firstOf (fun i => (f i).map g) m i = (firstOf f m i).map g
  | 0, _ => rfl
  | m + 1, i => by
    unfold firstOf
    cases f i with
    | some r => rfl
    | none => exact firstOf_map f g m (i + 1)
/-- where a knot is that is not before a time -/
def atK (a : LS) (t : Fl .f32) (i : Nat) : Option Nat := if fge (a.getD i dN) t = true then some i else none
/-- the second knot of a time's part -/
def pI (a : LS) (t : Fl .f32) : Nat := (firstOf (atK a t) (a.length - 1) 1).getD (a.length - 1)
theorem pI_in (a : LS) (t : Fl .f32) (h : 2 ≤ a.length) : 1 ≤ pI a t ∧ pI a t < a.length := by
  unfold pI
  cases hf : firstOf (atK a t) (a.length - 1) 1 with
  | none => simp only [Option.getD_none]; omega
  | some r =>
    obtain ⟨j, h1, h2, h3⟩ := firstOf_some _ _ _ _ hf
    unfold atK at h3
    split at h3
    · cases h3; simp only [Option.getD_some]; omega
    · cases h3
def slopF (a b : LS) (i : Nat) : Fl .f32 := fdiv (fsub (b.getD i dN) (b.getD (i - 1) dN)) (fsub (a.getD i dN) (a.getD (i - 1) dN))
def tempF (a b : LS) (t : Fl .f32) : Fl .f32 := if fle t (a.getD 0 dN) = true then b.getD 0 dN else if fge t (a.getD (a.length - 1) dN) = true then b.getD (a.length - 1) dN else fadd (b.getD (pI a t - 1) dN) (fmul (slopF a b (pI a t)) (fsub t (a.getD (pI a t - 1) dN)))
def partG (x : Pr × Fl .f32) : Option Int := if 2 ≤ x.1.1.length ∧ x.1.1.length ≤ 32 then some ((pI x.1.1 x.2 : Int) - 1) else none
def partS : FSpec := ⟨[PD, F32], [I64], partG⟩
def partPG (x : Pr × Fl .f32) : Option Int := if 2 ≤ x.1.1.length ∧ x.1.1.length ≤ 32 then some (pI x.1.1 x.2 : Int) else none
def partPS : FSpec := ⟨[.ptr PD, F32], [I64], partPG⟩
def slopG (x : Pr × Fl .f32) : Option (Fl .f32) := if 2 ≤ x.1.1.length ∧ x.1.1.length ≤ 32 ∧ x.1.2.length = x.1.1.length then some (slopF x.1.1 x.1.2 (pI x.1.1 x.2)) else none
def slopS : FSpec := ⟨[PD, F32], [F32], slopG⟩
def slopPG (x : Pr × Int) : Option (Fl .f32) := if 1 ≤ x.2 ∧ x.2 < x.1.1.length ∧ x.1.1.length ≤ 32 ∧ x.1.2.length = x.1.1.length then some (slopF x.1.1 x.1.2 x.2.toNat) else none
def slopPS : FSpec := ⟨[.ptr PD, I64], [F32], slopPG⟩
def tempG (x : Pr × Fl .f32) : Option (Fl .f32) := if 2 ≤ x.1.1.length ∧ x.1.1.length ≤ 32 ∧ x.1.2.length = x.1.1.length then some (tempF x.1.1 x.1.2 x.2) else none
def tempS : FSpec := ⟨[PD, F32], [F32], tempG⟩
def tempPG (x : Pr × Fl .f32) : Option (Fl .f32) := if 2 ≤ x.1.1.length ∧ x.1.1.length ≤ 32 ∧ x.1.2.length = x.1.1.length then some (tempF x.1.1 x.1.2 x.2) else none
def tempPS : FSpec := ⟨[.ptr PD, F32], [F32], tempPG⟩
def L_partS_1 : LSpec := ⟨[0, 1, 5], ⟨Shs.at 31 [(0, (.ptr 2 0 0)), (1, (.flt FloatKind.f32)), (5, (.int IntKind.i64))], [(2, (.vals false (.cons (.slc 3) (.cons (.slc 4) .nil)))), (3, (.arr false (EK.flt FloatKind.f32))), (4, (.arr false (EK.flt FloatKind.f32)))]⟩, [⟨.ret, [4], ⟨Shs.at 31 [(4, (.int IntKind.i64))], [(2, (.vals false (.cons (.slc 3) (.cons (.slc 4) .nil)))), (3, (.arr false (EK.flt FloatKind.f32))), (4, (.arr false (EK.flt FloatKind.f32)))]⟩⟩, ⟨.ext 0, [0], ⟨Shs.at 31 [(0, (.ptr 2 0 0))], [(2, (.vals false (.cons (.slc 3) (.cons (.slc 4) .nil)))), (3, (.arr false (EK.flt FloatKind.f32))), (4, (.arr false (EK.flt FloatKind.f32)))]⟩⟩], fun _ => bigN⟩
def loops_partS (f k n : Nat) : Option LSpec := bif (Nat.beq f 185 && Nat.beq k 2 && Nat.beq n 1) then some L_partS_1 else none
abbrev S_partS_1 : Type := (((Fl .f32) × (Int × Unit)) × ((Nat × (Nat × Unit)) × ((List (Fl .f32)) × ((List (Fl .f32)) × Unit))))
abbrev R_partS_1 : Type := (((Int × Unit) × ((Nat × (Nat × Unit)) × ((List (Fl .f32)) × ((List (Fl .f32)) × Unit)))) ⊕ (Unit × ((Nat × (Nat × Unit)) × ((List (Fl .f32)) × ((List (Fl .f32)) × Unit)))))
noncomputable def B_partS_1 (y : S_partS_1) : Option (S_partS_1 ⊕ R_partS_1) := bif decide (y.1.2.1 < (y.2.1.1 : Int)) then (bif inB y.1.2.1 y.2.1.1 then (bif fge (List.getD y.2.2.1 (0 + Int.toNat y.1.2.1) dN) y.1.1 then (some (Sum.inr (Sum.inl (((y.1.2.1, ()), ((y.2.1.1, (y.2.1.2.1, ())), (y.2.2.1, (y.2.2.2.1, ())))))))) else (some (Sum.inl (((y.1.1, (IntKind.i64.wrap (y.1.2.1 + 1), ())), ((y.2.1.1, (y.2.1.2.1, ())), (y.2.2.1, (y.2.2.2.1, ())))))))) else (none)) else (some (Sum.inr (Sum.inr (((), ((y.2.1.1, (y.2.1.2.1, ())), (y.2.2.1, (y.2.2.2.1, ()))))))))
noncomputable def ss_partS : List (Nat × FSpec) := []
theorem ssOk_partS : FTolds Try.prog ss_partS := trivial
noncomputable def Γ_partS : Ctx := ctxOf Try.prog tys fs ss_partS loops_partS
noncomputable def d_partS (a b : LS) (t : Fl .f32) : Option (Int) := Option.bind (iter B_partS_1 bigN (((t, (1, ())), ((List.length a, (List.length b, ())), (a, (b, ())))))) fun (r0 : (((Int × Unit) × ((Nat × (Nat × Unit)) × ((List (Fl .f32)) × ((List (Fl .f32)) × Unit)))) ⊕ (Unit × ((Nat × (Nat × Unit)) × ((List (Fl .f32)) × ((List (Fl .f32)) × Unit)))))) => (match r0 with | .inl x1 => (some (x1.1.1)) | .inr x1 => (some (IntKind.i64.wrap ((x1.2.1.1 : Int) - 1))))
theorem t_partS (a b : LS) (t : Fl .f32) : (fnT Γ_partS 10 185 [.ptr PD, F32] [I64] ((a, b), t)).den = d_partS a b t := by kernel_rfl
theorem p_partS (a b : LS) (t : Fl .f32) (r : Int) (h : partPG ((a, b), t) = some r) : d_partS a b t = some r := by
  obtain ⟨⟨h1, h2⟩, rfl⟩ := if_some (show (if 2 ≤ a.length ∧ a.length ≤ 32 then some (pI a t : Int) else none) = some r from h)
  have key := iter_find' (B := B_partS_1) (fun i => ((t, ((i : Int), ())), ((a.length, (b.length, ())), (a, (b, ()))))) 1 a.length (fun i => (atK a t i).map fun (j : Nat) => .inl (((j : Int), ()), ((a.length, (b.length, ())), (a, (b, ()))))) (.inr ((), ((a.length, (b.length, ())), (a, (b, ()))))) (by omega) (by omega) (fun i _ hi => by
    unfold B_partS_1 atK
    simp only [ltT hi, inB_of hi, inc64 hi (show a.length < 2 ^ 62 by omega), cond_true, Int.toNat_natCast, Nat.zero_add]
    by_cases e : fge (a.getD i dN) t = true
    · rw [if_pos e, e]; rfl
    · rw [if_neg e, Bool.eq_false_iff.2 e]; rfl) (by
    unfold B_partS_1
    simp only [ltF, cond_false])
  unfold d_partS
  refine (congrArg (fun z => Option.bind z _) (show iter B_partS_1 bigN _ = _ from key)).trans ?_
  rw [firstOf_map]
  unfold pI
  cases firstOf (atK a t) (a.length - 1) 1 with
  | none =>
    show some (IntKind.i64.wrap ((a.length : Int) - 1)) = some (((a.length - 1 : Nat)) : Int)
    rw [dec64 (by omega) (by omega)]
  | some j => rfl
theorem s_partS : FTold Try.prog 185 partPS := walkedF (fs := fs) (ss := ss_partS) (loop := loops_partS) tysOk mixed fnsOk ssOk_partS 10 185 [.ptr PD, F32] [I64] rfl _ fun ((a, b), t) r h => (t_partS a b t).trans (p_partS a b t r h)
def L_partI_1 : LSpec := ⟨[0, 1, 7, 8], ⟨Shs.at 19 [(0, (.slo 2)), (1, (.fn (Fn.func 208) .nil (.cons (.ptr 1028 0 0) .nil))), (7, (.int IntKind.i64)), (8, (.int IntKind.i64))], [(2, (.arr false (EK.flt FloatKind.f32))), (3, (.arr false (EK.flt FloatKind.f32))), (1027, (.vals true (.cons (.slc 2) (.cons (.slc 3) .nil)))), (1028, (.vals true (.cons (.flt FloatKind.f32) .nil)))]⟩, [⟨.ret, [4], ⟨Shs.at 19 [(4, (.int IntKind.i64))], [(2, (.arr false (EK.flt FloatKind.f32))), (3, (.arr false (EK.flt FloatKind.f32))), (1027, (.vals true (.cons (.slc 2) (.cons (.slc 3) .nil)))), (1028, (.vals true (.cons (.flt FloatKind.f32) .nil)))]⟩⟩, ⟨.ext 0, [], ⟨Shs.at 19 [], [(2, (.arr false (EK.flt FloatKind.f32))), (3, (.arr false (EK.flt FloatKind.f32))), (1027, (.vals true (.cons (.slc 2) (.cons (.slc 3) .nil)))), (1028, (.vals true (.cons (.flt FloatKind.f32) .nil)))]⟩⟩], fun _ => bigN⟩
def loops_partI (f k n : Nat) : Option LSpec := bif (Nat.beq f 198 && Nat.beq k 2 && Nat.beq n 1035) then some L_partI_1 else none
abbrev S_partI_1 : Type := (((Nat × Nat) × ((Unit × Unit) × (Int × (Int × Unit)))) × ((List (Fl .f32)) × ((List (Fl .f32)) × ((Nat × (Nat × Unit)) × (((Fl .f32) × Unit) × Unit)))))
abbrev R_partI_1 : Type := (((Int × Unit) × ((List (Fl .f32)) × ((List (Fl .f32)) × ((Nat × (Nat × Unit)) × (((Fl .f32) × Unit) × Unit))))) ⊕ (Unit × ((List (Fl .f32)) × ((List (Fl .f32)) × ((Nat × (Nat × Unit)) × (((Fl .f32) × Unit) × Unit))))))
noncomputable def B_partI_1 (y : S_partI_1) : Option (S_partI_1 ⊕ R_partI_1) := bif decide (y.1.2.2.2.1 < y.1.2.2.1) then (bif inB y.1.2.2.2.1 y.1.1.2 then (bif fge (List.getD y.2.1 (y.1.1.1 + Int.toNat y.1.2.2.2.1) dN) y.2.2.2.2.1.1 then (some (Sum.inr (Sum.inl (((y.1.2.2.2.1, ()), (y.2.1, (y.2.2.1, ((y.2.2.2.1.1, (y.2.2.2.1.2.1, ())), ((y.2.2.2.2.1.1, ()), ()))))))))) else (some (Sum.inl ((((y.1.1.1, y.1.1.2), (((), ()), (y.1.2.2.1, (IntKind.i64.wrap (y.1.2.2.2.1 + 1), ())))), (y.2.1, (y.2.2.1, ((y.2.2.2.1.1, (y.2.2.2.1.2.1, ())), ((y.2.2.2.2.1.1, ()), ()))))))))) else (none)) else (some (Sum.inr (Sum.inr (((), (y.2.1, (y.2.2.1, ((y.2.2.2.1.1, (y.2.2.2.1.2.1, ())), ((y.2.2.2.2.1.1, ()), ())))))))))
noncomputable def ss_partI : List (Nat × FSpec) := []
theorem ssOk_partI : FTolds Try.prog ss_partI := trivial
noncomputable def Γ_partI : Ctx := ctxOf Try.prog tys fs ss_partI loops_partI
noncomputable def d_partI (a b : LS) (t : Fl .f32) : Option (Int) := bif true && decide (1 ≤ ((List.length a : Nat) : Int)) then (Option.bind (iter B_partI_1 bigN ((((1, List.length a - Int.toNat 1), (((), ()), (((List.length a - Int.toNat 1 : Nat) : Int), (0, ())))), (a, (b, ((List.length a, (List.length b, ())), ((t, ()), ()))))))) fun (r0 : (((Int × Unit) × ((List (Fl .f32)) × ((List (Fl .f32)) × ((Nat × (Nat × Unit)) × (((Fl .f32) × Unit) × Unit))))) ⊕ (Unit × ((List (Fl .f32)) × ((List (Fl .f32)) × ((Nat × (Nat × Unit)) × (((Fl .f32) × Unit) × Unit))))))) => (match r0 with | .inl x1 => (bif decide (x1.1.1 < 0) then (some (IntKind.i64.wrap ((x1.2.2.2.1.1 : Int) - 2))) else (some (x1.1.1))) | .inr x1 => (bif true then (some (IntKind.i64.wrap ((x1.2.2.2.1.1 : Int) - 2))) else (some (-1))))) else (none)
theorem t_partI (a b : LS) (t : Fl .f32) : (fnT Γ_partI 10 202 [PD, F32] [I64] ((a, b), t)).den = d_partI a b t := by kernel_rfl
theorem p_partI (a b : LS) (t : Fl .f32) (r : Int) (h : partG ((a, b), t) = some r) : d_partI a b t = some r := by
  obtain ⟨⟨h1, h2⟩, rfl⟩ := if_some (show (if 2 ≤ a.length ∧ a.length ≤ 32 then some ((pI a t : Int) - 1) else none) = some r from h)
  obtain ⟨m, hm⟩ : ∃ m, a.length = m + 1 := ⟨a.length - 1, by omega⟩
  have key := iter_find' (B := B_partI_1) (fun i => ((((1, m), (((), ()), ((m : Int), ((i : Int), ())))), (a, (b, ((a.length, (b.length, ())), ((t, ()), ()))))))) 0 m (fun i => (atK a t (i + 1)).map fun (j : Nat) => .inl ((((j : Int) - 1), ()), (a, (b, ((a.length, (b.length, ())), ((t, ()), ())))))) (.inr ((), (a, (b, ((a.length, (b.length, ())), ((t, ()), ())))))) (Nat.zero_le _) (by omega) (fun i _ hi => by
    unfold B_partI_1 atK
    simp only [ltT hi, inB_of hi, inc64 hi (show m < 2 ^ 62 by omega), cond_true, Int.toNat_natCast, Nat.add_comm 1 i]
    by_cases e : fge (a.getD (i + 1) dN) t = true
    · rw [if_pos e, e]
      have : (((i + 1 : Nat) : Int) - 1) = (i : Int) := by omega
      simp only [cond_true, Option.map_some, this]
    · rw [if_neg e, Bool.eq_false_iff.2 e]; rfl) (by
    unfold B_partI_1
    simp only [ltF, cond_false])
  have e1 : a.length - Int.toNat 1 = m := by rw [hm]; rfl
  unfold d_partI
  rw [show (true && decide (1 ≤ (a.length : Int))) = true by simp; omega, cond_true, e1]
  refine (congrArg (fun z => Option.bind z _) (show iter B_partI_1 bigN _ = _ from key)).trans ?_
  rw [firstOf_map (fun i => atK a t (i + 1)), firstOf_shift]
  unfold pI
  rw [Nat.sub_zero, show a.length - 1 = m by omega]
  cases hf : firstOf (atK a t) m (0 + 1) with
  | none =>
    show some (IntKind.i64.wrap ((a.length : Int) - 2)) = some ((m : Int) - 1)
    rw [wrap64 (by omega) (by omega), hm]
    congr 1; omega
  | some j =>
    obtain ⟨q, g1, g2, g3⟩ := firstOf_some _ _ _ _ hf
    have : j = q := by
      unfold atK at g3
      split at g3
      · cases g3; rfl
      · cases g3
    show (bif decide ((j : Int) - 1 < 0) then _ else some ((j : Int) - 1)) = some ((j : Int) - 1)
    rw [decide_eq_false (by omega)]; rfl
theorem s_partI : FTold Try.prog 202 partS := walkedF (fs := fs) (ss := ss_partI) (loop := loops_partI) tysOk mixed fnsOk ssOk_partI 10 202 [PD, F32] [I64] rfl _ fun ((a, b), t) r h => (t_partI a b t).trans (p_partI a b t r h)
def loops_slopS (_ _ _ : Nat) : Option LSpec := none
noncomputable def ss_slopS : List (Nat × FSpec) := []
theorem ssOk_slopS : FTolds Try.prog ss_slopS := trivial
noncomputable def Γ_slopS : Ctx := ctxOf Try.prog tys fs ss_slopS loops_slopS
noncomputable def d_slopS (a b : LS) (n : Int) : Option ((Fl .f32)) := bif inB n (List.length b) then (bif inB (IntKind.i64.wrap (n - 1)) (List.length b) then (bif inB n (List.length a) then (bif inB (IntKind.i64.wrap (n - 1)) (List.length a) then (some (fdiv (fsub (List.getD b (0 + n.toNat) dN) (List.getD b (0 + (IntKind.i64.wrap (n - 1)).toNat) dN)) (fsub (List.getD a (0 + n.toNat) dN) (List.getD a (0 + (IntKind.i64.wrap (n - 1)).toNat) dN)))) else (none)) else (none)) else (none)) else (none)
theorem t_slopS (a b : LS) (n : Int) : (fnT Γ_slopS 10 186 [.ptr PD, I64] [F32] ((a, b), n)).den = d_slopS a b n := by kernel_rfl
theorem p_slopS (a b : LS) (n : Int) (r : (Fl .f32)) (h : slopPG ((a, b), n) = some r) : d_slopS a b n = some r := by
  obtain ⟨⟨h1, h2, h3, h4⟩, rfl⟩ := if_some (show (if 1 ≤ n ∧ n < (a.length : Int) ∧ a.length ≤ 32 ∧ b.length = a.length then some (slopF a b n.toNat) else none) = some r from h)
  obtain ⟨i, rfl⟩ : ∃ i : Nat, n = i := ⟨n.toNat, by omega⟩
  unfold d_slopS slopF
  simp only [dec64 (show 1 ≤ i by omega) (show i < 2 ^ 62 by omega), inB_of (show i < a.length by omega), inB_of (show i - 1 < a.length by omega), inB_of (show i < b.length by omega), inB_of (show i - 1 < b.length by omega), cond_true, Int.toNat_natCast, Nat.zero_add]
theorem s_slopS : FTold Try.prog 186 slopPS := walkedF (fs := fs) (ss := ss_slopS) (loop := loops_slopS) tysOk mixed fnsOk ssOk_slopS 10 186 [.ptr PD, I64] [F32] rfl _ fun ((a, b), n) r h => (t_slopS a b n).trans (p_slopS a b n r h)
def loops_slopI (_ _ _ : Nat) : Option LSpec := none
noncomputable def ss_slopI : List (Nat × FSpec) := [(202, partS)]
theorem ssOk_slopI : FTolds Try.prog ss_slopI := ⟨s_partI, trivial⟩
noncomputable def Γ_slopI : Ctx := ctxOf Try.prog tys fs ss_slopI loops_slopI
noncomputable def d_slopI (a b : LS) (t : Fl .f32) : Option ((Fl .f32)) := Option.bind (partG ((sub a 0 (List.length a), sub b 0 (List.length b)), t)) fun (r0 : Int) => (bif inB (IntKind.i64.wrap (r0 + 1)) (List.length b) then (bif inB r0 (List.length b) then (bif inB (IntKind.i64.wrap (r0 + 1)) (List.length a) then (bif inB r0 (List.length a) then (some (fdiv (fsub (List.getD b (0 + (IntKind.i64.wrap (r0 + 1)).toNat) dN) (List.getD b (0 + Int.toNat r0) dN)) (fsub (List.getD a (0 + (IntKind.i64.wrap (r0 + 1)).toNat) dN) (List.getD a (0 + Int.toNat r0) dN)))) else (none)) else (none)) else (none)) else (none))
theorem t_slopI (a b : LS) (t : Fl .f32) : (fnT Γ_slopI 10 203 [PD, F32] [F32] ((a, b), t)).den = d_slopI a b t := by kernel_rfl
theorem p_slopI (a b : LS) (t : Fl .f32) (r : (Fl .f32)) (h : slopG ((a, b), t) = some r) : d_slopI a b t = some r := by
  obtain ⟨⟨h1, h2, h3⟩, rfl⟩ := if_some (show (if 2 ≤ a.length ∧ a.length ≤ 32 ∧ b.length = a.length then some (slopF a b (pI a t)) else none) = some r from h)
  obtain ⟨p1, p2⟩ := pI_in a t h1
  have k1 : partG ((a, b), t) = some ((pI a t : Int) - 1) := if_pos ⟨h1, h2⟩
  unfold d_slopI slopF
  simp only [sub_all, k1, Option.bind_some]
  obtain ⟨j, hj⟩ : ∃ j, pI a t = j + 1 := ⟨pI a t - 1, by omega⟩
  rw [hj]
  have e1 : (((j + 1 : Nat) : Int) - 1) = (j : Int) := by omega
  simp only [e1, inc64 (show j < 32 by omega) (by decide), inB_of (show j + 1 < a.length by omega), inB_of (show j < a.length by omega), inB_of (show j + 1 < b.length by omega), inB_of (show j < b.length by omega), cond_true, Int.toNat_natCast, Nat.zero_add, Nat.add_sub_cancel]
theorem s_slopI : FTold Try.prog 203 slopS := walkedF (fs := fs) (ss := ss_slopI) (loop := loops_slopI) tysOk mixed fnsOk ssOk_slopI 10 203 [PD, F32] [F32] rfl _ fun ((a, b), t) r h => (t_slopI a b t).trans (p_slopI a b t r h)
def loops_tempS (_ _ _ : Nat) : Option LSpec := none
noncomputable def ss_tempS : List (Nat × FSpec) := [(185, partPS), (186, slopPS)]
theorem ssOk_tempS : FTolds Try.prog ss_tempS := ⟨s_partS, s_slopS, trivial⟩
noncomputable def Γ_tempS : Ctx := ctxOf Try.prog tys fs ss_tempS loops_tempS
noncomputable def d_tempS (a b : LS) (t : Fl .f32) : Option ((Fl .f32)) := bif inB 0 (List.length a) then (bif fle t (List.getD a (0 + Int.toNat 0) dN) then (bif inB 0 (List.length b) then (some (List.getD b (0 + Int.toNat 0) dN)) else (none)) else (bif inB (IntKind.i64.wrap (((List.length a : Nat) : Int) - 1)) (List.length a) then (bif fge t (List.getD a (0 + (IntKind.i64.wrap (((List.length a : Nat) : Int) - 1)).toNat) dN) then (bif inB (IntKind.i64.wrap (((List.length a : Nat) : Int) - 1)) (List.length b) then (some (List.getD b (0 + (IntKind.i64.wrap (((List.length a : Nat) : Int) - 1)).toNat) dN)) else (none)) else (Option.bind (partPG ((sub a 0 (List.length a), sub b 0 (List.length b)), t)) fun (r0 : Int) => (bif inB (IntKind.i64.wrap (r0 - 1)) (List.length b) then (Option.bind (slopPG ((sub a 0 (List.length a), sub b 0 (List.length b)), r0)) fun (r1 : (Fl .f32)) => (bif inB (IntKind.i64.wrap (r0 - 1)) (List.length a) then (some (fadd (List.getD b (0 + (IntKind.i64.wrap (r0 - 1)).toNat) dN) (fmul r1 (fsub t (List.getD a (0 + (IntKind.i64.wrap (r0 - 1)).toNat) dN))))) else (none))) else (none)))) else (none))) else (none)
theorem t_tempS (a b : LS) (t : Fl .f32) : (fnT Γ_tempS 10 152 [.ptr PD, F32] [F32] ((a, b), t)).den = d_tempS a b t := by kernel_rfl
theorem p_tempS (a b : LS) (t : Fl .f32) (r : (Fl .f32)) (h : tempPG ((a, b), t) = some r) : d_tempS a b t = some r := by
  obtain ⟨⟨h1, h2, h3⟩, rfl⟩ := if_some (show (if 2 ≤ a.length ∧ a.length ≤ 32 ∧ b.length = a.length then some (tempF a b t) else none) = some r from h)
  obtain ⟨p1, p2⟩ := pI_in a t h1
  have k1 : partPG ((a, b), t) = some (pI a t : Int) := if_pos ⟨h1, h2⟩
  have k2 : slopPG ((a, b), (pI a t : Int)) = some (slopF a b (pI a t)) := by
    have : slopPG ((a, b), (pI a t : Int)) = some (slopF a b (pI a t : Int).toNat) := if_pos ⟨by show (1 : Int) ≤ (pI a t : Int); omega, by show (pI a t : Int) < (a.length : Int); omega, h2, h3⟩
    rw [this, Int.toNat_natCast]
  have z0 : inB 0 a.length = true := inB_of (i := 0) (by omega)
  have z1 : inB 0 b.length = true := inB_of (i := 0) (by omega)
  unfold d_tempS tempF
  simp only [sub_all, k1, k2, z0, z1, Int.toNat_zero, dec64 (show 1 ≤ a.length by omega) (show a.length < 2 ^ 62 by omega), dec64 p1 (show pI a t < 2 ^ 62 by omega), inB_of (show a.length - 1 < a.length by omega), inB_of (show a.length - 1 < b.length by omega), inB_of (show pI a t - 1 < a.length by omega), inB_of (show pI a t - 1 < b.length by omega), Option.bind_some, cond_true, Int.toNat_natCast, Nat.zero_add]
  cases fle t (a.getD 0 dN) <;> cases fge t (a.getD (a.length - 1) dN) <;> rfl
theorem s_tempS : FTold Try.prog 152 tempPS := walkedF (fs := fs) (ss := ss_tempS) (loop := loops_tempS) tysOk mixed fnsOk ssOk_tempS 10 152 [.ptr PD, F32] [F32] rfl _ fun ((a, b), t) r h => (t_tempS a b t).trans (p_tempS a b t r h)
def loops_tempI (_ _ _ : Nat) : Option LSpec := none
noncomputable def ss_tempI : List (Nat × FSpec) := [(202, partS), (203, slopS)]
theorem ssOk_tempI : FTolds Try.prog ss_tempI := ⟨s_partI, s_slopI, trivial⟩
noncomputable def Γ_tempI : Ctx := ctxOf Try.prog tys fs ss_tempI loops_tempI
noncomputable def d_tempI (a b : LS) (t : Fl .f32) : Option ((Fl .f32)) := bif inB 0 (List.length a) then (bif fle t (List.getD a (0 + Int.toNat 0) dN) then (bif inB 0 (List.length b) then (some (List.getD b (0 + Int.toNat 0) dN)) else (none)) else (bif inB (IntKind.i64.wrap (((List.length a : Nat) : Int) - 1)) (List.length a) then (bif fge t (List.getD a (0 + (IntKind.i64.wrap (((List.length a : Nat) : Int) - 1)).toNat) dN) then (bif inB (IntKind.i64.wrap (((List.length a : Nat) : Int) - 1)) (List.length b) then (some (List.getD b (0 + (IntKind.i64.wrap (((List.length a : Nat) : Int) - 1)).toNat) dN)) else (none)) else (Option.bind (partG ((sub a 0 (List.length a), sub b 0 (List.length b)), t)) fun (r0 : Int) => (bif inB r0 (List.length b) then (Option.bind (slopG ((sub a 0 (List.length a), sub b 0 (List.length b)), t)) fun (r1 : (Fl .f32)) => (bif inB r0 (List.length a) then (some (fadd (List.getD b (0 + Int.toNat r0) dN) (fmul r1 (fsub t (List.getD a (0 + Int.toNat r0) dN))))) else (none))) else (none)))) else (none))) else (none)
theorem t_tempI (a b : LS) (t : Fl .f32) : (fnT Γ_tempI 10 188 [PD, F32] [F32] ((a, b), t)).den = d_tempI a b t := by kernel_rfl
theorem p_tempI (a b : LS) (t : Fl .f32) (r : (Fl .f32)) (h : tempG ((a, b), t) = some r) : d_tempI a b t = some r := by
  obtain ⟨⟨h1, h2, h3⟩, rfl⟩ := if_some (show (if 2 ≤ a.length ∧ a.length ≤ 32 ∧ b.length = a.length then some (tempF a b t) else none) = some r from h)
  obtain ⟨p1, p2⟩ := pI_in a t h1
  have k1 : partG ((a, b), t) = some ((pI a t : Int) - 1) := if_pos ⟨h1, h2⟩
  have k2 : slopG ((a, b), t) = some (slopF a b (pI a t)) := if_pos ⟨h1, h2, h3⟩
  have e1 : ((pI a t : Int) - 1) = ((pI a t - 1 : Nat) : Int) := by omega
  have z0 : inB 0 a.length = true := inB_of (i := 0) (by omega)
  have z1 : inB 0 b.length = true := inB_of (i := 0) (by omega)
  unfold d_tempI tempF
  simp only [sub_all, k1, k2, e1, z0, z1, Int.toNat_zero, dec64 (show 1 ≤ a.length by omega) (show a.length < 2 ^ 62 by omega), inB_of (show a.length - 1 < a.length by omega), inB_of (show a.length - 1 < b.length by omega), inB_of (show pI a t - 1 < a.length by omega), inB_of (show pI a t - 1 < b.length by omega), Option.bind_some, cond_true, Int.toNat_natCast, Nat.zero_add]
  cases fle t (a.getD 0 dN) <;> cases fge t (a.getD (a.length - 1) dN) <;> rfl
theorem s_tempI : FTold Try.prog 188 tempS := walkedF (fs := fs) (ss := ss_tempI) (loop := loops_tempI) tysOk mixed fnsOk ssOk_tempI 10 188 [PD, F32] [F32] rfl _ fun ((a, b), t) r h => (t_tempI a b t).trans (p_tempI a b t r h)
def tellF (x : Fl .f32) : Fl .f32 × Bool := if fin x = true then (x, true) else (Fl.of .f32 0, false)
open Classical in
noncomputable def SlopeF (a b : LS) (t : Fl .f32) : Fl .f32 × Bool := if vp a b = true ∧ fin t = true then tellF (slopF a b (pI a t)) else (Fl.of .f32 0, false)
noncomputable def TempF (a b : LS) (t : Fl .f32) : Fl .f32 × Bool := if vp a b = true ∧ fin t = true then tellF (tempF a b t) else (Fl.of .f32 0, false)
noncomputable def SlopeG (x : Pr × Fl .f32) : Option (Fl .f32 × Bool) := if x.1.2.length < 2 ^ 62 then some (SlopeF x.1.1 x.1.2 x.2) else none
noncomputable def SlopeS : FSpec := ⟨[PD, F32], [F32, .bool], SlopeG⟩
noncomputable def TempG (x : Pr × Fl .f32) : Option (Fl .f32 × Bool) := if x.1.2.length < 2 ^ 62 then some (TempF x.1.1 x.1.2 x.2) else none
noncomputable def TempS : FSpec := ⟨[PD, F32], [F32, .bool], TempG⟩
theorem told_tell (x : Fl .f32) : toldG x = some (tellF x) := rfl
def loops_TempI (_ _ _ : Nat) : Option LSpec := none
noncomputable def ss_TempI : List (Nat × FSpec) := [(62, vpS), (106, finS), (188, tempS), (157, toldS)]
theorem ssOk_TempI : FTolds Try.prog ss_TempI := ⟨s_validI, s_IsFinite, s_tempI, s_told, trivial⟩
noncomputable def Γ_TempI : Ctx := ctxOf Try.prog tys fs ss_TempI loops_TempI
noncomputable def d_TempI (a b : LS) (t : Fl .f32) : Option (((Fl .f32) × Bool)) := Option.bind (vpG (sub a 0 (List.length a), sub b 0 (List.length b))) fun (r0 : Bool) => (bif !r0 then (some ((Fl.of .f32 0, false))) else (Option.bind (finG t) fun (r1 : Bool) => (bif !r1 then (some ((Fl.of .f32 0, false))) else (Option.bind (tempG ((sub a 0 (List.length a), sub b 0 (List.length b)), t)) fun (r2 : (Fl .f32)) => (Option.bind (toldG r2) fun (r3 : ((Fl .f32) × Bool)) => (some ((r3.1, r3.2))))))))
theorem t_TempI (a b : LS) (t : Fl .f32) : (fnT Γ_TempI 10 155 [PD, F32] [F32, .bool] ((a, b), t)).den = d_TempI a b t := by kernel_rfl
theorem p_TempI (a b : LS) (t : Fl .f32) (r : ((Fl .f32) × Bool)) (h : TempG ((a, b), t) = some r) : d_TempI a b t = some r := by
  obtain ⟨hb, rfl⟩ := if_some (show (if b.length < 2 ^ 62 then some (TempF a b t) else none) = some r from h)
  have k0 : vpG (a, b) = some (vp a b) := if_pos hb
  unfold d_TempI TempF finG
  simp only [sub_all, k0, Option.bind_some, told_tell]
  cases hv : vp a b with
  | false => rfl
  | true =>
    cases hf : fin t with
    | false => rfl
    | true =>
      obtain ⟨h1, h2, h3, _⟩ := vp_of hv
      have k2 : tempG ((a, b), t) = some (tempF a b t) := if_pos ⟨h1, h2, h3⟩
      simp only [k2, Option.bind_some, Bool.not_true, cond_false, and_self, if_true]
theorem s_TempI : FTold Try.prog 155 TempS := walkedF (fs := fs) (ss := ss_TempI) (loop := loops_TempI) tysOk mixed fnsOk ssOk_TempI 10 155 [PD, F32] [F32, .bool] rfl _ fun ((a, b), t) r h => (t_TempI a b t).trans (p_TempI a b t r h)
def yesPG (x : Pr × Fl .f32) : Option Bool := if x.1.1.length ≤ maxLen ∧ x.1.2.length ≤ maxLen then some true else none
def yesPS : FSpec := ⟨[PD, F32], [.bool], yesPG⟩
end Go.Proofs.Ytjggcekliaalgaa
