/- The program's HeldCurve answers as the reference's does, at all arguments. No condition. -/
import Derived.Test.YtgmjoehnkannkaaK6
namespace Go.Proofs.Ytgmjoehnkannkaa
open Go.Ab
def heldOk (x : LT) (t : Fl .f32) (l : LS) : Prop := okL x = true ∧ fin t = true ∧ l.length ≤ 128 ∧ ∀ i, i < l.length → least (l.getD i dN) = true ∧ fin (afterF x t (l.getD i dN)) = true
open Classical in
noncomputable def curveF (x : LT) (t : Fl .f32) (l : LS) : LS × Bool := if heldOk x t l then (mapR (fun i => afterF x t (l.getD i dN)) l.length, true) else ([], false)
noncomputable def curveG (x : LT × Fl .f32 × LS) : Option (LS × Bool) := some (curveF x.1 x.2.1 x.2.2)
noncomputable def curveS : FSpec := ⟨[lawD, F32, L32], [L32, .bool], curveG⟩
theorem curve_no {x : LT} {t : Fl .f32} {l : LS} (h : ¬ heldOk x t l) : curveF x t l = ([], false) := if_neg h
theorem curve_yes {x : LT} {t : Fl .f32} {l : LS} (h : heldOk x t l) : curveF x t l = (mapR (fun i => afterF x t (l.getD i dN)) l.length, true) := if_pos h
theorem sub_mapR {α : Type} (f : Nat → α) (n : Nat) : sub (mapR f n) 0 n = mapR f n := by have := sub_all (mapR f n); rw [mapR_len] at this; exact this
def L_HeldS_1 : LSpec := ⟨[1, 2, 3, 8, 24, 25], ⟨Shs.at 48 [(1, (.flt FloatKind.f32)), (2, (.slc 2)), (3, (.ptr 2146435392 0 0)), (8, (.slc 2146435393)), (24, (.int IntKind.i64)), (25, (.int IntKind.i64))], [(2, (.arr false (EK.flt FloatKind.f32))), (2146435392, (.vals true (.cons (.flt FloatKind.f32) (.cons (.flt FloatKind.f32) (.cons (.flt FloatKind.f32) (.cons (.int IntKind.i64) .nil)))))), (2146435393, (.arr true (EK.flt FloatKind.f32)))]⟩, [⟨.ret, [6, 7], ⟨Shs.at 48 [(6, (.slc 2146435392)), (7, .bool)], [(2, (.arr false (EK.flt FloatKind.f32))), (2146435392, (.arr true (EK.flt FloatKind.f32)))]⟩⟩, ⟨.ext 0, [8], ⟨Shs.at 48 [(8, (.slc 2146435392))], [(2, (.arr false (EK.flt FloatKind.f32))), (2146435392, (.arr true (EK.flt FloatKind.f32)))]⟩⟩], fun _ => bigN⟩
def L_HeldS_2 : LSpec := ⟨[0, 6, 7], ⟨Shs.at 18 [(0, (.slc 2146435392)), (6, (.int IntKind.i64)), (7, (.int IntKind.i64))], [(2, (.arr false (EK.flt FloatKind.f32))), (2146435392, (.arr true (EK.flt FloatKind.f32)))]⟩, [⟨.ret, [2, 3], ⟨Shs.at 18 [(2, (.slc 1149976445056)), (3, .bool)], [(2, (.arr false (EK.flt FloatKind.f32))), (2146435392, (.arr true (EK.flt FloatKind.f32))), (1149976445056, (.arr true (EK.flt FloatKind.f32)))]⟩⟩, ⟨.ext 0, [0], ⟨Shs.at 18 [(0, (.slc 2146435392))], [(2, (.arr false (EK.flt FloatKind.f32))), (2146435392, (.arr true (EK.flt FloatKind.f32)))]⟩⟩], fun _ => bigN⟩
def loops_HeldS (f k n : Nat) : Option LSpec := bif (Nat.beq f 38 && Nat.beq k 5 && Nat.beq n 1) then some L_HeldS_1 else bif (Nat.beq f 53 && Nat.beq k 2 && Nat.beq n 1070) then some L_HeldS_2 else none
abbrev S_HeldS_1 : Type := (((Fl .f32) × (Nat × (Nat × (Int × (Int × Unit))))) × ((List (Fl .f32)) × (((Fl .f32) × ((Fl .f32) × ((Fl .f32) × (Int × Unit)))) × ((List (Fl .f32)) × Unit))))
abbrev R_HeldS_1 : Type := (((Nat × (Bool × Unit)) × ((List (Fl .f32)) × ((List (Fl .f32)) × Unit))) ⊕ ((Nat × Unit) × ((List (Fl .f32)) × ((List (Fl .f32)) × Unit))))
noncomputable def B_HeldS_1 (y : S_HeldS_1) : Option (S_HeldS_1 ⊕ R_HeldS_1) := bif decide (y.1.2.2.2.2.1 < y.1.2.2.2.1) then (bif inB y.1.2.2.2.2.1 y.1.2.1 then (Option.bind (leastG (List.getD y.2.1 (0 + Int.toNat y.1.2.2.2.2.1) dN)) fun (r3 : Bool) => (bif !r3 then (some (Sum.inr (Sum.inl (((0, (false, ())), (y.2.1, ([], ()))))))) else (bif inB y.1.2.2.2.2.1 y.1.2.1 then (Option.bind (aftPG ((y.2.2.1.1, y.2.2.1.2.1, y.2.2.1.2.2.1, y.2.2.1.2.2.2.1), y.1.1, List.getD y.2.1 (0 + Int.toNat y.1.2.2.2.2.1) dN)) fun (r4 : (Fl .f32)) => (bif decide (y.1.2.2.1 + 1 ≤ maxA) then (some (Sum.inl (((y.1.1, (y.1.2.1, ((sub y.2.2.2.1 0 y.1.2.2.1 ++ [r4]).length, (y.1.2.2.2.1, (IntKind.i64.wrap (y.1.2.2.2.2.1 + 1), ()))))), (y.2.1, ((y.2.2.1.1, (y.2.2.1.2.1, (y.2.2.1.2.2.1, (y.2.2.1.2.2.2.1, ())))), (sub y.2.2.2.1 0 y.1.2.2.1 ++ [r4], ()))))))) else (none))) else (none)))) else (none)) else (some (Sum.inr (Sum.inr (((y.1.2.2.1, ()), (y.2.1, (y.2.2.2.1, ())))))))
abbrev S_HeldS_2 : Type := ((Nat × (Int × (Int × Unit))) × ((List (Fl .f32)) × ((List (Fl .f32)) × Unit)))
abbrev R_HeldS_2 : Type := (((Nat × (Bool × Unit)) × ((List (Fl .f32)) × ((List (Fl .f32)) × ((List (Fl .f32)) × Unit)))) ⊕ ((Nat × Unit) × ((List (Fl .f32)) × ((List (Fl .f32)) × Unit))))
noncomputable def B_HeldS_2 (y : S_HeldS_2) : Option (S_HeldS_2 ⊕ R_HeldS_2) := bif decide (y.1.2.2.1 < y.1.2.1) then (bif inB y.1.2.2.1 y.1.1 then (Option.bind (finG (List.getD y.2.2.1 (0 + Int.toNat y.1.2.2.1) dN)) fun (r7 : Bool) => (bif !r7 then (some (Sum.inr (Sum.inl (((0, (false, ())), (y.2.1, (y.2.2.1, ([], ())))))))) else (some (Sum.inl (((y.1.1, (y.1.2.1, (IntKind.i64.wrap (y.1.2.2.1 + 1), ()))), (y.2.1, (y.2.2.1, ())))))))) else (none)) else (some (Sum.inr (Sum.inr (((y.1.1, ()), (y.2.1, (y.2.2.1, ())))))))
noncomputable def ss_HeldS : List (Nat × FSpec) := [(56, okPS), (57, finS), (63, leastS), (64, aftPS)]
theorem ssOk_HeldS : FTolds Try.prog ss_HeldS := ⟨s_lawS, s_l01Finite, s_least, s_after, trivial⟩
noncomputable def Γ_HeldS : Ctx := ctxOf Try.prog tys fs ss_HeldS loops_HeldS
noncomputable def d_HeldS (a b c : Fl .f32) (n : Int) (t : Fl .f32) (l : LS) : Option (((List (Fl .f32)) × Bool)) := Option.bind (okPG (a, b, c, n)) fun (r0 : Bool) => (bif !r0 then (some (([], false))) else (Option.bind (finG t) fun (r1 : Bool) => (bif !r1 then (some (([], false))) else (bif decide (((List.length l : Nat) : Int) > 128) then (some (([], false))) else (Option.bind (iter B_HeldS_1 bigN (((t, (List.length l, (0, (((List.length l : Nat) : Int), (0, ()))))), (l, ((a, (b, (c, (n, ())))), ([], ())))))) fun (r2 : (((Nat × (Bool × Unit)) × ((List (Fl .f32)) × ((List (Fl .f32)) × Unit))) ⊕ ((Nat × Unit) × ((List (Fl .f32)) × ((List (Fl .f32)) × Unit))))) => (match r2 with | .inl x5 => (some ((sub x5.2.2.1 0 x5.1.1, x5.1.2.1))) | .inr x5 => (Option.bind (iter B_HeldS_2 bigN (((x5.1.1, ((x5.1.1 : Int), (0, ()))), (x5.2.1, (x5.2.2.1, ()))))) fun (r6 : (((Nat × (Bool × Unit)) × ((List (Fl .f32)) × ((List (Fl .f32)) × ((List (Fl .f32)) × Unit)))) ⊕ ((Nat × Unit) × ((List (Fl .f32)) × ((List (Fl .f32)) × Unit))))) => (match r6 with | .inl x8 => (some ((sub x8.2.2.2.1 0 x8.1.1, x8.1.2.1))) | .inr x8 => (some ((sub x8.2.2.1 0 x8.1.1, true)))))))))))
theorem t_HeldS (a b c : Fl .f32) (n : Int) (t : Fl .f32) (l : LS) : (fnT Γ_HeldS 10 38 [lawD, F32, L32] [L32, .bool] ((a, b, c, n), t, l)).den = d_HeldS a b c n t l := by kernel_rfl
theorem p_HeldS (a b c : Fl .f32) (n : Int) (t : Fl .f32) (l : LS) (r : ((List (Fl .f32)) × Bool)) (h : curveG ((a, b, c, n), t, l) = some r) : d_HeldS a b c n t l = some r := by
  refine Eq.trans ?_ h
  unfold d_HeldS curveG okPG finG
  simp only [Option.bind_some]
  cases h1 : okL (a, b, c, n) with
  | false => rw [curve_no fun k => by have := k.1; rw [h1] at this; cases this]; rfl
  | true =>
    cases h2 : fin t with
    | false => rw [curve_no fun k => by have := k.2.1; rw [h2] at this; cases this]; rfl
    | true =>
      by_cases h3 : l.length ≤ 128
      · rw [decide_eq_false (show ¬ (l.length : Int) > 128 by omega)]
        simp only [Bool.not_true, cond_false]
        have key1 := iter_find' (B := B_HeldS_1) (fun i => ((t, (l.length, (i, ((l.length : Int), ((i : Int), ()))))), (l, ((a, (b, (c, (n, ())))), (mapR (fun i => afterF (a, b, c, n) t (l.getD i dN)) i, ()))))) 0 l.length (fun i => if least (l.getD i dN) = true then none else some (.inl ((0, (false, ())), (l, ([], ()))))) (.inr ((l.length, ()), (l, (mapR (fun i => afterF (a, b, c, n) t (l.getD i dN)) l.length, ())))) (Nat.zero_le _) (by omega) (fun i _ hi => by
          unfold B_HeldS_1 leastG
          simp only [ltT hi, inB_of hi, inc64 hi (show l.length < 2 ^ 62 by omega), cond_true, Int.toNat_natCast, Nat.zero_add, Option.bind_some]
          by_cases e : least (l.getD i dN) = true
          · have k : aftPG ((a, b, c, n), t, l.getD i dN) = some (afterF (a, b, c, n) t (l.getD i dN)) := if_pos ⟨h1, e⟩
            rw [if_pos e, e]
            simp only [k, Bool.not_true, cond_false, Option.bind_some, maxA_one (show i < 2 ^ 30 by omega), cond_true, sub_mapR, ← mapR_succ (fun i => afterF (a, b, c, n) t (l.getD i dN)) i, mapR_len]
          · rw [if_neg e, Bool.eq_false_iff.2 e]; rfl) (by
          unfold B_HeldS_1
          simp only [ltF, cond_false])
        refine (congrArg (fun z => Option.bind z _) (show iter B_HeldS_1 bigN _ = _ from key1)).trans ?_
        rcases firstOf_const (fun i => least (l.getD i dN)) (.inl ((0, (false, ())), (l, ([], ()))) : R_HeldS_1) (l.length - 0) 0 with ⟨q, hall⟩ | ⟨q, j, _, hj, hbad⟩
        · rw [q]
          simp only [Option.getD_none, Option.bind_some]
          have key2 := iter_find' (B := B_HeldS_2) (fun i => ((l.length, ((l.length : Int), ((i : Int), ()))), (l, (mapR (fun i => afterF (a, b, c, n) t (l.getD i dN)) l.length, ())))) 0 l.length (fun i => if fin ((mapR (fun i => afterF (a, b, c, n) t (l.getD i dN)) l.length).getD i dN) = true then none else some (.inl ((0, (false, ())), (l, (mapR (fun i => afterF (a, b, c, n) t (l.getD i dN)) l.length, ([], ())))))) (.inr ((l.length, ()), (l, (mapR (fun i => afterF (a, b, c, n) t (l.getD i dN)) l.length, ())))) (Nat.zero_le _) (by omega) (fun i _ hi => by
            unfold B_HeldS_2 finG
            simp only [ltT hi, inB_of hi, inc64 hi (show l.length < 2 ^ 62 by omega), cond_true, Int.toNat_natCast, Nat.zero_add, Option.bind_some]
            by_cases e : fin ((mapR (fun i => afterF (a, b, c, n) t (l.getD i dN)) l.length).getD i dN) = true
            · rw [if_pos e, e]; rfl
            · rw [if_neg e, Bool.eq_false_iff.2 e]; rfl) (by
            unfold B_HeldS_2
            simp only [ltF, cond_false])
          refine (congrArg (fun z => Option.bind z _) (show iter B_HeldS_2 bigN _ = _ from key2)).trans ?_
          rcases firstOf_const (fun i => fin ((mapR (fun i => afterF (a, b, c, n) t (l.getD i dN)) l.length).getD i dN)) (.inl ((0, (false, ())), (l, (mapR (fun i => afterF (a, b, c, n) t (l.getD i dN)) l.length, ([], ())))) : R_HeldS_2) (l.length - 0) 0 with ⟨q2, hall2⟩ | ⟨q2, j, _, hj, hbad⟩
          · rw [q2]
            have ok : heldOk (a, b, c, n) t l := ⟨h1, h2, h3, fun i hi => ⟨hall i (Nat.zero_le _) (by omega), by have := hall2 i (Nat.zero_le _) (by omega); rw [mapR_get _ _ hi] at this; exact this⟩⟩
            rw [curve_yes ok]
            simp only [Option.getD_none, Option.bind_some, sub_mapR]
          · rw [q2]
            rw [curve_no fun k => by
              have := (k.2.2.2 j (by omega)).2
              rw [mapR_get _ _ (by omega)] at hbad
              rw [hbad] at this; cases this]
            rfl
        · rw [q]
          rw [curve_no fun k => by
            have := (k.2.2.2 j (by omega)).1
            rw [hbad] at this; cases this]
          rfl
      · rw [curve_no fun k => h3 k.2.2.1, decide_eq_true (show (l.length : Int) > 128 by omega)]; rfl
theorem s_HeldS : FTold Try.prog 38 curveS := walkedF (fs := fs) (ss := ss_HeldS) (loop := loops_HeldS) tysOk mixed fnsOk ssOk_HeldS 10 38 [lawD, F32, L32] [L32, .bool] rfl _ fun ((a, b, c, n), t, l) r h => (t_HeldS a b c n t l).trans (p_HeldS a b c n t l r h)
def L_HeldI_1 : LSpec := ⟨[1, 6, 15, 16, 17], ⟨Shs.at 35 [(1, (.fn (Fn.func 79) .nil (.cons (.ptr 1028 0 0) (.cons (.ptr 1029 0 0) .nil)))), (6, (.slc 1120985416000)), (15, (.slc 2)), (16, (.int IntKind.i64)), (17, (.int IntKind.i64))], [(2, (.arr false (EK.flt FloatKind.f32))), (1028, (.vals true (.cons (.flt FloatKind.f32) (.cons (.flt FloatKind.f32) (.cons (.flt FloatKind.f32) (.cons (.int IntKind.i64) .nil)))))), (1029, (.vals true (.cons (.flt FloatKind.f32) .nil))), (1031, (.arr true (EK.flt FloatKind.f32))), (1120985416000, (.arr true (EK.flt FloatKind.f32)))]⟩, [⟨.ret, [4, 5], ⟨Shs.at 35 [(4, (.slc 1120985416000)), (5, .bool)], [(2, (.arr false (EK.flt FloatKind.f32))), (1028, (.vals true (.cons (.flt FloatKind.f32) (.cons (.flt FloatKind.f32) (.cons (.flt FloatKind.f32) (.cons (.int IntKind.i64) .nil)))))), (1029, (.vals true (.cons (.flt FloatKind.f32) .nil))), (1031, (.arr true (EK.flt FloatKind.f32))), (1120985416000, (.arr true (EK.flt FloatKind.f32)))]⟩⟩, ⟨.ext 0, [6], ⟨Shs.at 35 [(6, (.slc 1120985416000))], [(2, (.arr false (EK.flt FloatKind.f32))), (1028, (.vals true (.cons (.flt FloatKind.f32) (.cons (.flt FloatKind.f32) (.cons (.flt FloatKind.f32) (.cons (.int IntKind.i64) .nil)))))), (1029, (.vals true (.cons (.flt FloatKind.f32) .nil))), (1031, (.arr true (EK.flt FloatKind.f32))), (1120985416000, (.arr true (EK.flt FloatKind.f32)))]⟩⟩], fun _ => bigN⟩
def loops_HeldI (f k n : Nat) : Option LSpec := bif (Nat.beq f 78 && Nat.beq k 5 && Nat.beq n 1043) then some L_HeldI_1 else none
abbrev S_HeldI_1 : Type := (((Unit × Unit) × (Nat × (Nat × (Int × (Int × Unit))))) × ((List (Fl .f32)) × (((Fl .f32) × ((Fl .f32) × ((Fl .f32) × (Int × Unit)))) × (((Fl .f32) × Unit) × ((List (Fl .f32)) × ((List (Fl .f32)) × Unit))))))
abbrev R_HeldI_1 : Type := (((Nat × (Bool × Unit)) × ((List (Fl .f32)) × (((Fl .f32) × ((Fl .f32) × ((Fl .f32) × (Int × Unit)))) × (((Fl .f32) × Unit) × ((List (Fl .f32)) × ((List (Fl .f32)) × Unit)))))) ⊕ ((Nat × Unit) × ((List (Fl .f32)) × (((Fl .f32) × ((Fl .f32) × ((Fl .f32) × (Int × Unit)))) × (((Fl .f32) × Unit) × ((List (Fl .f32)) × ((List (Fl .f32)) × Unit)))))))
noncomputable def B_HeldI_1 (y : S_HeldI_1) : Option (S_HeldI_1 ⊕ R_HeldI_1) := bif decide (y.1.2.2.2.2.1 < y.1.2.2.2.1) then (bif inB y.1.2.2.2.2.1 y.1.2.2.1 then (Option.bind (shareG ((y.2.2.1.1, y.2.2.1.2.1, y.2.2.1.2.2.1, y.2.2.1.2.2.2.1), y.2.2.2.1.1, List.getD y.2.1 (0 + Int.toNat y.1.2.2.2.2.1) dN)) fun (r3 : ((Fl .f32) × Bool)) => (bif !r3.2 then (some (Sum.inr (Sum.inl (((0, (false, ())), (y.2.1, ((y.2.2.1.1, (y.2.2.1.2.1, (y.2.2.1.2.2.1, (y.2.2.1.2.2.2.1, ())))), ((y.2.2.2.1.1, ()), (y.2.2.2.2.1, ([], ())))))))))) else (bif decide (y.1.2.1 + 1 ≤ maxA) then (some (Sum.inl (((((), ()), ((sub y.2.2.2.2.2.1 0 y.1.2.1 ++ [r3.1]).length, (y.1.2.2.1, (y.1.2.2.2.1, (IntKind.i64.wrap (y.1.2.2.2.2.1 + 1), ()))))), (y.2.1, ((y.2.2.1.1, (y.2.2.1.2.1, (y.2.2.1.2.2.1, (y.2.2.1.2.2.2.1, ())))), ((y.2.2.2.1.1, ()), (y.2.2.2.2.1, (sub y.2.2.2.2.2.1 0 y.1.2.1 ++ [r3.1], ()))))))))) else (none)))) else (none)) else (some (Sum.inr (Sum.inr (((y.1.2.1, ()), (y.2.1, ((y.2.2.1.1, (y.2.2.1.2.1, (y.2.2.1.2.2.1, (y.2.2.1.2.2.2.1, ())))), ((y.2.2.2.1.1, ()), (y.2.2.2.2.1, (y.2.2.2.2.2.1, ()))))))))))
noncomputable def ss_HeldI : List (Nat × FSpec) := [(60, okLS), (50, finS), (26, shareS)]
theorem ssOk_HeldI : FTolds Try.prog ss_HeldI := ⟨s_lawI, s_IsFinite, s_ShareI, trivial⟩
noncomputable def Γ_HeldI : Ctx := ctxOf Try.prog tys fs ss_HeldI loops_HeldI
noncomputable def d_HeldI (a b c : Fl .f32) (n : Int) (t : Fl .f32) (l : LS) : Option (((List (Fl .f32)) × Bool)) := Option.bind (okLG (a, b, c, n)) fun (r0 : Bool) => (bif !r0 then (some (([], false))) else (Option.bind (finG t) fun (r1 : Bool) => (bif !r1 then (some (([], false))) else (bif decide (((List.length l : Nat) : Int) > 128) then (some (([], false))) else (Option.bind (iter B_HeldI_1 bigN (((((), ()), (0, (List.length l, (((List.length l : Nat) : Int), (0, ()))))), (l, ((a, (b, (c, (n, ())))), ((t, ()), ([], ([], ())))))))) fun (r2 : (((Nat × (Bool × Unit)) × ((List (Fl .f32)) × (((Fl .f32) × ((Fl .f32) × ((Fl .f32) × (Int × Unit)))) × (((Fl .f32) × Unit) × ((List (Fl .f32)) × ((List (Fl .f32)) × Unit)))))) ⊕ ((Nat × Unit) × ((List (Fl .f32)) × (((Fl .f32) × ((Fl .f32) × ((Fl .f32) × (Int × Unit)))) × (((Fl .f32) × Unit) × ((List (Fl .f32)) × ((List (Fl .f32)) × Unit)))))))) => (match r2 with | .inl x4 => (some ((sub x4.2.2.2.2.2.1 0 x4.1.1, x4.1.2.1))) | .inr x4 => (some ((sub x4.2.2.2.2.2.1 0 x4.1.1, true)))))))))
theorem t_HeldI (a b c : Fl .f32) (n : Int) (t : Fl .f32) (l : LS) : (fnT Γ_HeldI 10 40 [lawD, F32, L32] [L32, .bool] ((a, b, c, n), t, l)).den = d_HeldI a b c n t l := by kernel_rfl
theorem share_ok {x : LT} {t m : Fl .f32} (h : (shareF x t m).2 = true) : least m = true ∧ fin (afterF x t m) = true ∧ (shareF x t m).1 = afterF x t m := by
  unfold shareF at h ⊢
  split at h
  · rename_i h1
    rw [if_pos h1]
    split at h
    · rename_i h2
      rw [if_pos h2]; exact ⟨h1.2.2, h2, rfl⟩
    · cases h
  · cases h
theorem share_no {x : LT} {t m : Fl .f32} (h1 : okL x = true) (h2 : fin t = true) (h : (shareF x t m).2 = false) : ¬ (least m = true ∧ fin (afterF x t m) = true) := by
  intro k
  unfold shareF at h
  rw [if_pos ⟨h1, h2, k.1⟩, if_pos k.2] at h
  cases h
theorem mapR_congr {α : Type} {f g : Nat → α} {n : Nat} (h : ∀ i, i < n → f i = g i) : mapR f n = mapR g n := by
  unfold mapR
  exact List.map_congr_left fun i hi => h i (List.mem_range.1 hi)
theorem p_HeldI (a b c : Fl .f32) (n : Int) (t : Fl .f32) (l : LS) (r : ((List (Fl .f32)) × Bool)) (h : curveG ((a, b, c, n), t, l) = some r) : d_HeldI a b c n t l = some r := by
  refine Eq.trans ?_ h
  unfold d_HeldI curveG okLG finG
  simp only [Option.bind_some]
  cases h1 : okL (a, b, c, n) with
  | false => rw [curve_no fun k => by have := k.1; rw [h1] at this; cases this]; rfl
  | true =>
    cases h2 : fin t with
    | false => rw [curve_no fun k => by have := k.2.1; rw [h2] at this; cases this]; rfl
    | true =>
      by_cases h3 : l.length ≤ 128
      · rw [decide_eq_false (show ¬ (l.length : Int) > 128 by omega)]
        simp only [Bool.not_true, cond_false]
        have key1 := iter_find' (B := B_HeldI_1) (fun i => ((((), ()), (i, (l.length, ((l.length : Int), ((i : Int), ()))))), (l, ((a, (b, (c, (n, ())))), ((t, ()), ([], (mapR (fun i => (shareF (a, b, c, n) t (l.getD i dN)).1) i, ()))))))) 0 l.length (fun i => if (shareF (a, b, c, n) t (l.getD i dN)).2 = true then none else some (.inl ((0, (false, ())), (l, ((a, (b, (c, (n, ())))), ((t, ()), ([], ([], ())))))))) (.inr ((l.length, ()), (l, ((a, (b, (c, (n, ())))), ((t, ()), ([], (mapR (fun i => (shareF (a, b, c, n) t (l.getD i dN)).1) l.length, ()))))))) (Nat.zero_le _) (by omega) (fun i _ hi => by
          unfold B_HeldI_1 shareG
          simp only [ltT hi, inB_of hi, inc64 hi (show l.length < 2 ^ 62 by omega), cond_true, Int.toNat_natCast, Nat.zero_add, Option.bind_some]
          by_cases e : (shareF (a, b, c, n) t (l.getD i dN)).2 = true
          · rw [if_pos e, e]
            simp only [Bool.not_true, cond_false, maxA_one (show i < 2 ^ 30 by omega), cond_true, sub_mapR, ← mapR_succ (fun i => (shareF (a, b, c, n) t (l.getD i dN)).1) i, mapR_len]
          · rw [if_neg e, Bool.eq_false_iff.2 e]; rfl) (by
          unfold B_HeldI_1
          simp only [ltF, cond_false])
        refine (congrArg (fun z => Option.bind z _) (show iter B_HeldI_1 bigN _ = _ from key1)).trans ?_
        rcases firstOf_const (fun i => (shareF (a, b, c, n) t (l.getD i dN)).2) (.inl ((0, (false, ())), (l, ((a, (b, (c, (n, ())))), ((t, ()), ([], ([], ())))))) : R_HeldI_1) (l.length - 0) 0 with ⟨q, hall⟩ | ⟨q, j, _, hj, hbad⟩
        · rw [q]
          have ok : heldOk (a, b, c, n) t l := ⟨h1, h2, h3, fun i hi => by
            have := share_ok (hall i (Nat.zero_le _) (by omega)); exact ⟨this.1, this.2.1⟩⟩
          rw [curve_yes ok]
          simp only [Option.getD_none, Option.bind_some, sub_mapR]
          rw [mapR_congr fun i hi => (share_ok (hall i (Nat.zero_le _) (by omega))).2.2]
        · rw [q]
          rw [curve_no fun k => share_no h1 h2 hbad (k.2.2.2 j (by omega))]
          rfl
      · rw [curve_no fun k => h3 k.2.2.1, decide_eq_true (show (l.length : Int) > 128 by omega)]; rfl
theorem s_HeldI : FTold Try.prog 40 curveS := walkedF (fs := fs) (ss := ss_HeldI) (loop := loops_HeldI) tysOk mixed fnsOk ssOk_HeldI 10 40 [lawD, F32, L32] [L32, .bool] rfl _ fun ((a, b, c, n), t, l) r h => (t_HeldI a b c n t l).trans (p_HeldI a b c n t l r h)
theorem curve_len (x : LT) (t : Fl .f32) (l : LS) : (curveF x t l).1.length ≤ 128 := by
  by_cases h : heldOk x t l
  · rw [curve_yes h, mapR_len]; exact h.2.2.1
  · rw [curve_no h]; exact Nat.zero_le _
theorem held_marks {n : Nat} (hn : n < 2 ^ 40) : heldG (marks 1 n, 1) = some (1 + (n : Int)) := by
  have : heldG (marks 1 n, 1) = some (1 + ((marks 1 n).length : Int)) := if_pos ⟨by show _ = marks 1 (marks 1 n).length; rw [marks_len], by show (marks 1 n).length < 2 ^ 40; rw [marks_len]; omega, show (0 : Int) ≤ 1 by decide, show (1 : Int) < 2 ^ 60 by decide⟩
  rw [this, marks_len]
theorem sub_marks (k : Int) (n : Nat) : sub (marks k n) 0 n = marks k n := by have := sub_all (marks k n); rw [marks_len] at this; exact this
def yesCG (x : LT × Fl .f32 × LS) : Option Bool := some true
def yesCS : FSpec := ⟨[lawD, F32, L32], [.bool], yesCG⟩
def L_lawHeld_1 : LSpec := ⟨[0, 1, 5], ⟨Shs.at 20 [(0, (.slc 1081320)), (1, (.int IntKind.i64)), (5, (.int IntKind.i64))], [(2, (.arr false (EK.flt FloatKind.f32))), (1028, (.vals true (.cons (.flt FloatKind.f32) (.cons (.flt FloatKind.f32) (.cons (.flt FloatKind.f32) (.cons (.int IntKind.i64) .nil)))))), (1076200, (.arr true (EK.flt FloatKind.f32))), (1077224, (.arr true (EK.flt FloatKind.f32))), (1081320, (.arr true (EK.flt FloatKind.f32))), (1087464, (.arr true (EK.flt FloatKind.f32))), (1101800, (.arr true (EK.flt FloatKind.f32)))]⟩, [⟨.ext 0, [1], ⟨Shs.at 20 [(1, (.int IntKind.i64))], [(2, (.arr false (EK.flt FloatKind.f32))), (1028, (.vals true (.cons (.flt FloatKind.f32) (.cons (.flt FloatKind.f32) (.cons (.flt FloatKind.f32) (.cons (.int IntKind.i64) .nil)))))), (1076200, (.arr true (EK.flt FloatKind.f32))), (1077224, (.arr true (EK.flt FloatKind.f32))), (1081320, (.arr true (EK.flt FloatKind.f32))), (1087464, (.arr true (EK.flt FloatKind.f32))), (1101800, (.arr true (EK.flt FloatKind.f32)))]⟩⟩], fun _ => bigN⟩
def L_lawHeld_2 : LSpec := ⟨[0, 1, 5], ⟨Shs.at 20 [(0, (.slc 1087464)), (1, (.int IntKind.i64)), (5, (.int IntKind.i64))], [(2, (.arr false (EK.flt FloatKind.f32))), (1028, (.vals true (.cons (.flt FloatKind.f32) (.cons (.flt FloatKind.f32) (.cons (.flt FloatKind.f32) (.cons (.int IntKind.i64) .nil)))))), (1076200, (.arr true (EK.flt FloatKind.f32))), (1077224, (.arr true (EK.flt FloatKind.f32))), (1081320, (.arr true (EK.flt FloatKind.f32))), (1087464, (.arr true (EK.flt FloatKind.f32))), (1101800, (.arr true (EK.flt FloatKind.f32)))]⟩, [⟨.ext 0, [1], ⟨Shs.at 20 [(1, (.int IntKind.i64))], [(2, (.arr false (EK.flt FloatKind.f32))), (1028, (.vals true (.cons (.flt FloatKind.f32) (.cons (.flt FloatKind.f32) (.cons (.flt FloatKind.f32) (.cons (.int IntKind.i64) .nil)))))), (1076200, (.arr true (EK.flt FloatKind.f32))), (1077224, (.arr true (EK.flt FloatKind.f32))), (1081320, (.arr true (EK.flt FloatKind.f32))), (1087464, (.arr true (EK.flt FloatKind.f32))), (1101800, (.arr true (EK.flt FloatKind.f32)))]⟩⟩], fun _ => bigN⟩
def loops_lawHeld (f k n : Nat) : Option LSpec := bif (Nat.beq f 20 && Nat.beq k 2 && Nat.beq n 1080) then some L_lawHeld_1 else bif (Nat.beq f 20 && Nat.beq k 2 && Nat.beq n 1096) then some L_lawHeld_2 else none
abbrev S_lawHeld_1 : Type := ((Nat × (Int × (Int × Unit))) × ((List (Fl .f32)) × (((Fl .f32) × ((Fl .f32) × ((Fl .f32) × (Int × Unit)))) × ((List (Fl .f32)) × ((List (Fl .f32)) × ((List (Fl .f32)) × ((List (Fl .f32)) × ((List (Fl .f32)) × Unit))))))))
abbrev R_lawHeld_1 : Type := ((Int × Unit) × ((List (Fl .f32)) × (((Fl .f32) × ((Fl .f32) × ((Fl .f32) × (Int × Unit)))) × ((List (Fl .f32)) × ((List (Fl .f32)) × ((List (Fl .f32)) × ((List (Fl .f32)) × ((List (Fl .f32)) × Unit))))))))
noncomputable def B_lawHeld_1 (y : S_lawHeld_1) : Option (S_lawHeld_1 ⊕ R_lawHeld_1) := bif decide (y.1.2.2.1 < (y.1.1 : Int)) then (bif inB y.1.2.2.1 y.1.1 then (some (Sum.inl (((y.1.1, (IntKind.i64.wrap (y.1.2.1 + 1), (IntKind.i64.wrap (y.1.2.2.1 + 1), ()))), (y.2.1, ((y.2.2.1.1, (y.2.2.1.2.1, (y.2.2.1.2.2.1, (y.2.2.1.2.2.2.1, ())))), (y.2.2.2.1, (y.2.2.2.2.1, (List.set y.2.2.2.2.2.1 (0 + Int.toNat y.1.2.2.1) (fofInt .f32 y.1.2.1), (y.2.2.2.2.2.2.1, (y.2.2.2.2.2.2.2.1, ()))))))))))) else (none)) else (some (Sum.inr (((y.1.2.1, ()), (y.2.1, ((y.2.2.1.1, (y.2.2.1.2.1, (y.2.2.1.2.2.1, (y.2.2.1.2.2.2.1, ())))), (y.2.2.2.1, (y.2.2.2.2.1, (y.2.2.2.2.2.1, (y.2.2.2.2.2.2.1, (y.2.2.2.2.2.2.2.1, ())))))))))))
abbrev S_lawHeld_2 : Type := ((Nat × (Int × (Int × Unit))) × ((List (Fl .f32)) × (((Fl .f32) × ((Fl .f32) × ((Fl .f32) × (Int × Unit)))) × ((List (Fl .f32)) × ((List (Fl .f32)) × ((List (Fl .f32)) × ((List (Fl .f32)) × ((List (Fl .f32)) × Unit))))))))
abbrev R_lawHeld_2 : Type := ((Int × Unit) × ((List (Fl .f32)) × (((Fl .f32) × ((Fl .f32) × ((Fl .f32) × (Int × Unit)))) × ((List (Fl .f32)) × ((List (Fl .f32)) × ((List (Fl .f32)) × ((List (Fl .f32)) × ((List (Fl .f32)) × Unit))))))))
noncomputable def B_lawHeld_2 (y : S_lawHeld_2) : Option (S_lawHeld_2 ⊕ R_lawHeld_2) := bif decide (y.1.2.2.1 < (y.1.1 : Int)) then (bif inB y.1.2.2.1 y.1.1 then (some (Sum.inl (((y.1.1, (IntKind.i64.wrap (y.1.2.1 + 1), (IntKind.i64.wrap (y.1.2.2.1 + 1), ()))), (y.2.1, ((y.2.2.1.1, (y.2.2.1.2.1, (y.2.2.1.2.2.1, (y.2.2.1.2.2.2.1, ())))), (y.2.2.2.1, (y.2.2.2.2.1, (y.2.2.2.2.2.1, (List.set y.2.2.2.2.2.2.1 (0 + Int.toNat y.1.2.2.1) (fofInt .f32 y.1.2.1), (y.2.2.2.2.2.2.2.1, ()))))))))))) else (none)) else (some (Sum.inr (((y.1.2.1, ()), (y.2.1, ((y.2.2.1.1, (y.2.2.1.2.1, (y.2.2.1.2.2.1, (y.2.2.1.2.2.2.1, ())))), (y.2.2.2.1, (y.2.2.2.2.1, (y.2.2.2.2.2.1, (y.2.2.2.2.2.2.1, (y.2.2.2.2.2.2.2.1, ())))))))))))
noncomputable def ss_lawHeld : List (Nat × FSpec) := [(23, lawCS), (39, copyS), (38, curveS), (40, curveS), (19, selfLS), (21, heldS)]
theorem ssOk_lawHeld : FTolds Try.prog ss_lawHeld := ⟨s_toLaw, s_toL, s_HeldS, s_HeldI, s_eqL, s_heldL, trivial⟩
noncomputable def Γ_lawHeld : Ctx := ctxOf Try.prog tys fs ss_lawHeld loops_lawHeld
noncomputable def d_lawHeld (a b c : Fl .f32) (n : Int) (t : Fl .f32) (l : LS) : Option (Bool) := bif decide (((List.length l : Nat) : Int) > 1048576) then (some (true)) else (Option.bind (lawCG (a, b, c, n)) fun (r0 : ((Fl .f32) × ((Fl .f32) × ((Fl .f32) × Int)))) => (Option.bind (copyG (sub l 0 (List.length l))) fun (r1 : (List (Fl .f32))) => (Option.bind (curveG ((r0.1, r0.2.1, r0.2.2.1, r0.2.2.2), t, sub r1 0 (List.length r1))) fun (r2 : ((List (Fl .f32)) × Bool)) => (Option.bind (copyG (sub l 0 (List.length l))) fun (r3 : (List (Fl .f32))) => (Option.bind (lawCG (a, b, c, n)) fun (r4 : ((Fl .f32) × ((Fl .f32) × ((Fl .f32) × Int)))) => (Option.bind (curveG ((r4.1, r4.2.1, r4.2.2.1, r4.2.2.2), t, sub r3 0 (List.length r3))) fun (r5 : ((List (Fl .f32)) × Bool)) => (Option.bind (selfLG (sub r5.1 0 (List.length r5.1), sub r2.1 0 (List.length r2.1))) fun (r6 : Bool) => (bif !r6 then (some (false)) else (bif !r5.2 == r2.2 then (some (false)) else (Option.bind (copyG (sub l 0 (List.length l))) fun (r7 : (List (Fl .f32))) => (Option.bind (selfLG (sub r3 0 (List.length r3), sub r7 0 (List.length r7))) fun (r8 : Bool) => (bif !r8 then (some (false)) else (Option.bind (iter B_lawHeld_1 bigN (((List.length r3, (1, (0, ()))), (l, ((a, (b, (c, (n, ())))), (r1, (r2.1, (r3, (r5.1, (r7, ())))))))))) fun (r9 : ((Int × Unit) × ((List (Fl .f32)) × (((Fl .f32) × ((Fl .f32) × ((Fl .f32) × (Int × Unit)))) × ((List (Fl .f32)) × ((List (Fl .f32)) × ((List (Fl .f32)) × ((List (Fl .f32)) × ((List (Fl .f32)) × Unit))))))))) => (bif decide (r9.1.1 < 0) then (some (false)) else (Option.bind (selfLG (sub r9.2.2.2.2.2.2.1 0 (List.length r5.1), sub r9.2.2.2.2.1 0 (List.length r2.1))) fun (r10 : Bool) => (bif !r10 then (some (false)) else (bif !r5.2 == r2.2 then (some (false)) else (Option.bind (iter B_lawHeld_2 bigN (((List.length r5.1, (1, (0, ()))), (r9.2.1, ((r9.2.2.1.1, (r9.2.2.1.2.1, (r9.2.2.1.2.2.1, (r9.2.2.1.2.2.2.1, ())))), (r9.2.2.2.1, (r9.2.2.2.2.1, (r9.2.2.2.2.2.1, (r9.2.2.2.2.2.2.1, (r9.2.2.2.2.2.2.2.1, ())))))))))) fun (r11 : ((Int × Unit) × ((List (Fl .f32)) × (((Fl .f32) × ((Fl .f32) × ((Fl .f32) × (Int × Unit)))) × ((List (Fl .f32)) × ((List (Fl .f32)) × ((List (Fl .f32)) × ((List (Fl .f32)) × ((List (Fl .f32)) × Unit))))))))) => (Option.bind (heldG (sub r11.2.2.2.2.2.2.1 0 (List.length r5.1), 1)) fun (r12 : Int) => (bif decide (r12 < 0) then (some (false)) else (bif r12 != r11.1.1 then (some (false)) else (Option.bind (lawCG (r11.2.2.1.1, r11.2.2.1.2.1, r11.2.2.1.2.2.1, r11.2.2.1.2.2.2.1)) fun (r13 : ((Fl .f32) × ((Fl .f32) × ((Fl .f32) × Int)))) => (Option.bind (copyG (sub r11.2.1 0 (List.length l))) fun (r14 : (List (Fl .f32))) => (Option.bind (curveG ((r13.1, r13.2.1, r13.2.2.1, r13.2.2.2), t, sub r14 0 (List.length r14))) fun (r15 : ((List (Fl .f32)) × Bool)) => (Option.bind (selfLG (sub r15.1 0 (List.length r15.1), sub r11.2.2.2.2.1 0 (List.length r2.1))) fun (r16 : Bool) => (bif !r16 then (some (false)) else (bif !r15.2 == r2.2 then (some (false)) else (Option.bind (heldG (sub r11.2.2.2.2.2.2.1 0 (List.length r5.1), 1)) fun (r17 : Int) => (bif decide (r17 < 0) then (some (false)) else (bif r17 != r11.1.1 then (some (false)) else (some (true))))))))))))))))))))))))))))))))
theorem t_lawHeld (a b c : Fl .f32) (n : Int) (t : Fl .f32) (l : LS) : (fnT Γ_lawHeld 10 10 [lawD, F32, L32] [.bool] ((a, b, c, n), t, l)).den = d_lawHeld a b c n t l := by kernel_rfl
theorem p_lawHeld (a b c : Fl .f32) (n : Int) (t : Fl .f32) (l : LS) (r : Bool) (h : yesCG ((a, b, c, n), t, l) = some r) : d_lawHeld a b c n t l = some r := by
  cases h
  unfold d_lawHeld
  by_cases hl : (l.length : Int) > 1048576
  · rw [decide_eq_true hl]; rfl
  · obtain ⟨⟨g, ok⟩, hg⟩ : ∃ z, curveG ((a, b, c, n), t, l) = some z := ⟨_, rfl⟩
    have hgl : g.length ≤ 128 := by have := curve_len (a, b, c, n) t l; rw [show curveF (a, b, c, n) t l = (g, ok) from Option.some.inj hg] at this; exact this
    have c1 : copyG l = some l := if_pos (by omega)
    have s1 : selfLG (g, g) = some true := if_pos ⟨rfl, by show g.length < 2 ^ 62; omega⟩
    have s2 : selfLG (l, l) = some true := if_pos ⟨rfl, by show l.length < 2 ^ 62; omega⟩
    have q0 : lawCG (a, b, c, n) = some (a, b, c, n) := rfl
    have key1 := iter_for (B := B_lawHeld_1) (fun i => ((l.length, (1 + i, ((i : Int), ()))), (l, ((a, (b, (c, (n, ())))), (l, (g, (markUp 1 l i, (g, (l, ()))))))))) 0 l.length ((1 + (l.length : Int), ()), (l, ((a, (b, (c, (n, ())))), (l, (g, (markUp 1 l l.length, (g, (l, ())))))))) (Nat.zero_le _) (by omega) (fun i _ hi => by
      unfold B_lawHeld_1
      simp only [ltT hi, inB_of hi, inc64 hi (show l.length < 2 ^ 62 by omega), wrapAdd (show (0 : Int) ≤ 1 by decide) (by decide) (show i < 2 ^ 60 by omega), Int.toNat_natCast, Nat.zero_add, cond_true, markUp_succ 1 l hi]) (by
      unfold B_lawHeld_1
      simp only [ltF, cond_false])
    have key2 := iter_for (B := B_lawHeld_2) (fun i => ((g.length, (1 + i, ((i : Int), ()))), (l, ((a, (b, (c, (n, ())))), (l, (g, (marks 1 l.length, (markUp 1 g i, (l, ()))))))))) 0 g.length ((1 + (g.length : Int), ()), (l, ((a, (b, (c, (n, ())))), (l, (g, (marks 1 l.length, (markUp 1 g g.length, (l, ())))))))) (Nat.zero_le _) (by omega) (fun i _ hi => by
      unfold B_lawHeld_2
      simp only [ltT hi, inB_of hi, inc64 hi (show g.length < 2 ^ 62 by omega), wrapAdd (show (0 : Int) ≤ 1 by decide) (by decide) (show i < 2 ^ 60 by omega), Int.toNat_natCast, Nat.zero_add, cond_true, markUp_succ 1 g hi]) (by
      unfold B_lawHeld_2
      simp only [ltF, cond_false])
    simp only [markUp_zero, markUp_end] at key1 key2
    have hlt1 : decide (1 + (l.length : Int) < 0) = false := by simp; omega
    have hlt2 : decide (1 + (g.length : Int) < 0) = false := by simp; omega
    have hh := held_marks (n := g.length) (by omega)
    rw [decide_eq_false hl]
    simp only [cond_false, q0, c1, hg, Option.bind_some, sub_all, s1, s2, Bool.not_true, eq_not_self]
    refine (congrArg (fun z => Option.bind z _) (show iter B_lawHeld_1 bigN _ = _ from key1)).trans ?_
    simp only [Option.bind_some, hlt1, cond_false, sub_all, s1, Bool.not_true]
    refine (congrArg (fun z => Option.bind z _) (show iter B_lawHeld_2 bigN _ = _ from key2)).trans ?_
    simp only [Option.bind_some, sub_marks, hh, hlt2, cond_false, eq_bne, q0, c1, hg, sub_all, s1, Bool.not_true, eq_not_self]
theorem s_lawHeld : FTold Try.prog 10 yesCS := walkedF (fs := fs) (ss := ss_lawHeld) (loop := loops_lawHeld) tysOk mixed fnsOk ssOk_lawHeld 10 10 [lawD, F32, L32] [.bool] rfl _ fun ((a, b, c, n), t, l) r h => (t_lawHeld a b c n t l).trans (p_lawHeld a b c n t l r h)
open Go.RowKit Go.ChangeShapes Go.WideShapes Go.ChangeAt
set_option maxRecDepth 100000 in
theorem lifted_lawHeld (os : Os) (started : os.Started) (H : Type) (enc : TypeId × Value → H) :
    ReturnsInHanded {} Try.checked os 10 .any (Rows.fnExactHeldCurveSpec.pre6 enc Try.prog Try.f10 Rows.fnExactHeldCurveRow.domain false) (Rows.fnExactHeldCurveSpec.post enc Try.prog Try.f10 false true false false) := by
  refine returnsInHanded_of_change (C := Try.checked) own started (by kernel_rfl) Try.func10
    (ChangeSpec.witness6 (enc := enc) (C := Try.checked) false ⟨#[], #[.agg #[.float .f32 0, .float .f32 0, .float .f32 0, .int .i64 0], .float .f32 0, .slice none 0 0], []⟩ 8 (by kernel_rfl) (by kernel_rfl) (by kernel_rfl) (by kernel_rfl)) ?_
  intro W base args ds gs before hval hW _ _
  exact law_post (P := Try.prog) (fn := Try.f10) (s := Rows.fnExactHeldCurveSpec) laidOut s_lawHeld.out Try.func10 rfl (by kernel_rfl) (by kernel_rfl) (by kernel_rfl) rfl Try.underlying4 rfl (fun ds h => by
    match ds, h with
    | [d0, d1, d2], _ => exact ⟨rfl, rfl, rfl⟩) (fun _ _ => rfl) W base args ds gs before hval hW

theorem over10 : Rows.FnExactHeldCurveSaid :=
  OpenClaim.holds_of_wide 10 Try.f10 rfl rfl rfl rfl rfl rfl rfl ⟨rfl, rfl, rfl, rfl, rfl⟩ rfl rfl rfl rfl rfl (by kernel_rfl) Try.func10 (by kernel_rfl)
    (of_decide_eq_true (by kernel_rfl)) (by unfold Func.isWrapper; first | (rw [if_pos (by decide +kernel)]; kernel_rfl) | (rw [if_neg (by decide +kernel)]; exact ⟨rfl, rfl⟩))
    (fun os started H enc _ => lifted_lawHeld os started H enc)
end Go.Proofs.Ytgmjoehnkannkaa
