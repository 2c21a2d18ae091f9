/- The program's StartCurve and NoseOf answer as the reference's do, at all arguments. No condition. -/
import Derived.Test.YtdlcebiglolfjaaK11
import Derived.Test.YtdlcebiglolfjaaK7
namespace Go.Proofs.Ytdlcebiglolfjaa
open Go.Ab
def stOk (x : LT) (m : Fl .f32) (l : LS) : Prop := okL x = true ∧ shB m = true ∧ l.length ≤ 128 ∧ ∀ i, i < l.length → (TimeF x (l.getD i dN) m).2 = true
open Classical in
noncomputable def startF (x : LT) (m : Fl .f32) (l : LS) : LS × Bool := if stOk x m l then (mapR (fun i => (TimeF x (l.getD i dN) m).1) l.length, true) else ([], false)
noncomputable def startG (x : LT × Fl .f32 × LS) : Option (LS × Bool) := some (startF x.1 x.2.1 x.2.2)
noncomputable def startS : FSpec := ⟨[lawD, F32, L32], [L32, .bool], startG⟩
noncomputable def startPG (x : LT × Fl .f32 × LS) : Option (LS × Bool) := some (startF x.1 x.2.1 x.2.2)
noncomputable def startPS : FSpec := ⟨[.ptr lawD, F32, L32], [L32, .bool], startPG⟩
def bestN (g : LS) : Nat → Nat
  | 0 => 0
  | i + 1 => if flt (g.getD i dN) (g.getD (bestN g i) dN) = true then i else bestN g i
theorem bestN_lt (g : LS) (h : 0 < g.length) : ∀ i, i ≤ g.length → bestN g i < g.length
  | 0, _ => h
  | i + 1, hi => by
    unfold bestN
    split
    · omega
    · exact bestN_lt g h i (by omega)
theorem start_no {x : LT} {m : Fl .f32} {l : LS} (h : ¬ stOk x m l) : startF x m l = ([], false) := if_neg h
theorem start_yes {x : LT} {m : Fl .f32} {l : LS} (h : stOk x m l) : startF x m l = (mapR (fun i => (TimeF x (l.getD i dN) m).1) l.length, true) := if_pos h
theorem start_len (x : LT) (m : Fl .f32) (l : LS) : (startF x m l).1.length ≤ 128 := by
  by_cases h : stOk x m l
  · rw [start_yes h, mapR_len]; exact h.2.2.1
  · rw [start_no h]; exact Nat.zero_le _
open Classical in
noncomputable def noseF (x : LT) (m : Fl .f32) (l : LS) : Int × Fl .f32 × Bool := if (startF x m l).2 = true ∧ 0 < (startF x m l).1.length then (((bestN (startF x m l).1 (startF x m l).1.length : Nat) : Int), (startF x m l).1.getD (bestN (startF x m l).1 (startF x m l).1.length) dN, true) else (0, Fl.of .f32 0, false)
noncomputable def noseG (x : LT × Fl .f32 × LS) : Option (Int × Fl .f32 × Bool) := some (noseF x.1 x.2.1 x.2.2)
noncomputable def noseS : FSpec := ⟨[lawD, F32, L32], [I64, F32, .bool], noseG⟩
def L_startsS_1 : LSpec := ⟨[0, 1, 2, 8, 27, 28], ⟨Shs.at 55 [(0, (.ptr 2 0 0)), (1, (.flt FloatKind.f32)), (2, (.slc 3)), (8, (.slc 2146435392)), (27, (.int IntKind.i64)), (28, (.int IntKind.i64))], [(2, (.vals false (.cons (.flt FloatKind.f32) (.cons (.flt FloatKind.f32) (.cons (.flt FloatKind.f32) (.cons (.int IntKind.i64) .nil)))))), (3, (.arr false (EK.flt FloatKind.f32))), (2146435392, (.arr true (EK.flt FloatKind.f32)))]⟩, [⟨.ret, [6, 7], ⟨Shs.at 55 [(6, (.slc 2146435392)), (7, .bool)], [(2, (.vals false (.cons (.flt FloatKind.f32) (.cons (.flt FloatKind.f32) (.cons (.flt FloatKind.f32) (.cons (.int IntKind.i64) .nil)))))), (3, (.arr false (EK.flt FloatKind.f32))), (2146435392, (.arr true (EK.flt FloatKind.f32)))]⟩⟩, ⟨.ext 0, [8], ⟨Shs.at 55 [(8, (.slc 2146435392))], [(2, (.vals false (.cons (.flt FloatKind.f32) (.cons (.flt FloatKind.f32) (.cons (.flt FloatKind.f32) (.cons (.int IntKind.i64) .nil)))))), (3, (.arr false (EK.flt FloatKind.f32))), (2146435392, (.arr true (EK.flt FloatKind.f32)))]⟩⟩], fun _ => bigN⟩
def loops_startsS (f k n : Nat) : Option LSpec := bif (Nat.beq f 74 && Nat.beq k 5 && Nat.beq n 1) then some L_startsS_1 else none
abbrev S_startsS_1 : Type := (((Fl .f32) × (Nat × (Nat × (Int × (Int × Unit))))) × (((Fl .f32) × ((Fl .f32) × ((Fl .f32) × (Int × Unit)))) × ((List (Fl .f32)) × ((List (Fl .f32)) × Unit))))
abbrev R_startsS_1 : Type := (((Nat × (Bool × Unit)) × (((Fl .f32) × ((Fl .f32) × ((Fl .f32) × (Int × Unit)))) × ((List (Fl .f32)) × ((List (Fl .f32)) × Unit)))) ⊕ ((Nat × Unit) × (((Fl .f32) × ((Fl .f32) × ((Fl .f32) × (Int × Unit)))) × ((List (Fl .f32)) × ((List (Fl .f32)) × Unit)))))
noncomputable def B_startsS_1 (y : S_startsS_1) : Option (S_startsS_1 ⊕ R_startsS_1) := bif decide (y.1.2.2.2.2.1 < y.1.2.2.2.1) then (bif inB y.1.2.2.2.2.1 y.1.2.1 then (Option.bind (finG (List.getD y.2.2.1 (0 + Int.toNat y.1.2.2.2.2.1) dN)) fun (r3 : Bool) => (bif !r3 then (some (Sum.inr (Sum.inl (((0, (false, ())), ((y.2.1.1, (y.2.1.2.1, (y.2.1.2.2.1, (y.2.1.2.2.2.1, ())))), (y.2.2.1, ([], ())))))))) else (bif inB y.1.2.2.2.2.1 y.1.2.1 then (Option.bind (forPG ((y.2.1.1, y.2.1.2.1, y.2.1.2.2.1, y.2.1.2.2.2.1), List.getD y.2.2.1 (0 + Int.toNat y.1.2.2.2.2.1) dN, y.1.1)) fun (r4 : ((Fl .f32) × Bool)) => (bif !r4.2 then (some (Sum.inr (Sum.inl (((0, (false, ())), ((y.2.1.1, (y.2.1.2.1, (y.2.1.2.2.1, (y.2.1.2.2.2.1, ())))), (y.2.2.1, ([], ())))))))) else (bif decide (y.1.2.2.1 + 1 ≤ maxA) then (some (Sum.inl (((y.1.1, (y.1.2.1, ((sub y.2.2.2.1 0 y.1.2.2.1 ++ [r4.1]).length, (y.1.2.2.2.1, (IntKind.i64.wrap (y.1.2.2.2.2.1 + 1), ()))))), ((y.2.1.1, (y.2.1.2.1, (y.2.1.2.2.1, (y.2.1.2.2.2.1, ())))), (y.2.2.1, (sub y.2.2.2.1 0 y.1.2.2.1 ++ [r4.1], ()))))))) else (none)))) else (none)))) else (none)) else (some (Sum.inr (Sum.inr (((y.1.2.2.1, ()), ((y.2.1.1, (y.2.1.2.1, (y.2.1.2.2.1, (y.2.1.2.2.2.1, ())))), (y.2.2.1, (y.2.2.2.1, ()))))))))
noncomputable def ss_startsS : List (Nat × FSpec) := [(80, okPS), (81, finS), (87, shS), (129, forPS)]
theorem ssOk_startsS : FTolds Try.prog ss_startsS := ⟨s_lawS, s_l01Finite, s_shareS, s_forS, trivial⟩
noncomputable def Γ_startsS : Ctx := ctxOf Try.prog tys fs ss_startsS loops_startsS
noncomputable def d_startsS (a b c : Fl .f32) (n : Int) (m : Fl .f32) (l : LS) : Option (((List (Fl .f32)) × Bool)) := Option.bind (okPG (a, b, c, n)) fun (r0 : Bool) => (bif !r0 then (some (([], false))) else (Option.bind (shG m) fun (r1 : Bool) => (bif !r1 then (some (([], false))) else (bif decide (((List.length l : Nat) : Int) > 128) then (some (([], false))) else (Option.bind (iter B_startsS_1 bigN (((m, (List.length l, (0, (((List.length l : Nat) : Int), (0, ()))))), ((a, (b, (c, (n, ())))), (l, ([], ())))))) fun (r2 : (((Nat × (Bool × Unit)) × (((Fl .f32) × ((Fl .f32) × ((Fl .f32) × (Int × Unit)))) × ((List (Fl .f32)) × ((List (Fl .f32)) × Unit)))) ⊕ ((Nat × Unit) × (((Fl .f32) × ((Fl .f32) × ((Fl .f32) × (Int × Unit)))) × ((List (Fl .f32)) × ((List (Fl .f32)) × Unit)))))) => (match r2 with | .inl x5 => (some ((sub x5.2.2.2.1 0 x5.1.1, x5.1.2.1))) | .inr x5 => (some ((sub x5.2.2.2.1 0 x5.1.1, true)))))))))
theorem t_startsS (a b c : Fl .f32) (n : Int) (m : Fl .f32) (l : LS) : (fnT Γ_startsS 10 74 [.ptr lawD, F32, L32] [L32, .bool] ((a, b, c, n), m, l)).den = d_startsS a b c n m l := by kernel_rfl
theorem p_startsS (a b c : Fl .f32) (n : Int) (m : Fl .f32) (l : LS) (r : ((List (Fl .f32)) × Bool)) (h : startPG ((a, b, c, n), m, l) = some r) : d_startsS a b c n m l = some r := by
  refine Eq.trans ?_ h
  unfold d_startsS startPG okPG shG
  simp only [Option.bind_some]
  cases h1 : okL (a, b, c, n) with
  | false => rw [start_no fun k => by have := k.1; rw [h1] at this; cases this]; rfl
  | true =>
    cases h2 : shB m with
    | false => rw [start_no fun k => by have := k.2.1; rw [h2] at this; cases this]; rfl
    | true =>
      by_cases h3 : l.length ≤ 128
      · rw [decide_eq_false (show ¬ (l.length : Int) > 128 by omega)]
        simp only [Bool.not_true, cond_false]
        have key1 := iter_find' (B := B_startsS_1) (fun i => ((m, (l.length, (i, ((l.length : Int), ((i : Int), ()))))), ((a, (b, (c, (n, ())))), (l, (mapR (fun i => (TimeF (a, b, c, n) (l.getD i dN) m).1) i, ()))))) 0 l.length (fun i => if (TimeF (a, b, c, n) (l.getD i dN) m).2 = true then none else some (.inl ((0, (false, ())), ((a, (b, (c, (n, ())))), (l, ([], ())))))) (.inr ((l.length, ()), ((a, (b, (c, (n, ())))), (l, (mapR (fun i => (TimeF (a, b, c, n) (l.getD i dN) m).1) l.length, ()))))) (Nat.zero_le _) (by omega) (fun i _ hi => by
          unfold B_startsS_1 finG
          simp only [ltT hi, inB_of hi, inc64 hi (show l.length < 2 ^ 62 by omega), cond_true, Int.toNat_natCast, Nat.zero_add, Option.bind_some]
          cases e1 : fin (l.getD i dN) with
          | false =>
            have e0 : TimeF (a, b, c, n) (l.getD i dN) m = (Fl.of .f32 0, false) := if_neg (fun k => by have := k.2.1; rw [e1] at this; cases this)
            rw [e0]; rfl
          | true =>
            have e0 : TimeF (a, b, c, n) (l.getD i dN) m = forF (a, b, c, n) (l.getD i dN) m := if_pos ⟨h1, e1, h2⟩
            have k : forPG ((a, b, c, n), l.getD i dN, m) = some (forF (a, b, c, n) (l.getD i dN) m) := if_pos ⟨h1, e1, h2⟩
            rw [← e0] at k
            simp only [k, Bool.not_true, cond_false, Option.bind_some]
            by_cases e2 : (TimeF (a, b, c, n) (l.getD i dN) m).2 = true
            · rw [if_pos e2, e2]
              simp only [maxA_one (show i < 2 ^ 30 by omega), cond_true, sub_mapR, ← mapR_succ (fun i => (TimeF (a, b, c, n) (l.getD i dN) m).1) i, mapR_len, Bool.not_true, cond_false]
            · rw [if_neg e2, Bool.eq_false_iff.2 e2]; rfl) (by
          unfold B_startsS_1
          simp only [ltF, cond_false])
        refine (congrArg (fun z => Option.bind z _) (show iter B_startsS_1 bigN _ = _ from key1)).trans ?_
        rcases firstOf_const (fun i => (TimeF (a, b, c, n) (l.getD i dN) m).2) (.inl ((0, (false, ())), ((a, (b, (c, (n, ())))), (l, ([], ())))) : R_startsS_1) (l.length - 0) 0 with ⟨q, hall⟩ | ⟨q, j, _, hj, hbad⟩
        · rw [q]
          have ok : stOk (a, b, c, n) m l := ⟨h1, h2, h3, fun i hi => hall i (Nat.zero_le _) (by omega)⟩
          rw [start_yes ok]
          simp only [Option.getD_none, Option.bind_some, sub_mapR]
        · rw [q, start_no fun k => by have := k.2.2.2 j (by omega); rw [hbad] at this; cases this]
          rfl
      · rw [start_no fun k => h3 k.2.2.1, decide_eq_true (show (l.length : Int) > 128 by omega)]; rfl
theorem s_startsS : FTold Try.prog 74 startPS := walkedF (fs := fs) (ss := ss_startsS) (loop := loops_startsS) tysOk mixed fnsOk ssOk_startsS 10 74 [.ptr lawD, F32, L32] [L32, .bool] rfl _ fun ((a, b, c, n), m, l) r h => (t_startsS a b c n m l).trans (p_startsS a b c n m l r h)
def loops_StartS (_ _ _ : Nat) : Option LSpec := none
noncomputable def ss_StartS : List (Nat × FSpec) := [(74, startPS)]
theorem ssOk_StartS : FTolds Try.prog ss_StartS := ⟨s_startsS, trivial⟩
noncomputable def Γ_StartS : Ctx := ctxOf Try.prog tys fs ss_StartS loops_StartS
noncomputable def d_StartS (a b c : Fl .f32) (n : Int) (m : Fl .f32) (l : LS) : Option (((List (Fl .f32)) × Bool)) := Option.bind (startPG ((a, b, c, n), m, sub l 0 (List.length l))) fun (r0 : ((List (Fl .f32)) × Bool)) => (some ((sub r0.1 0 (List.length r0.1), r0.2)))
theorem t_StartS (a b c : Fl .f32) (n : Int) (m : Fl .f32) (l : LS) : (fnT Γ_StartS 10 29 [lawD, F32, L32] [L32, .bool] ((a, b, c, n), m, l)).den = d_StartS a b c n m l := by kernel_rfl
theorem p_StartS (a b c : Fl .f32) (n : Int) (m : Fl .f32) (l : LS) (r : ((List (Fl .f32)) × Bool)) (h : startG ((a, b, c, n), m, l) = some r) : d_StartS a b c n m l = some r := by
  refine Eq.trans ?_ h
  unfold d_StartS
  simp only [sub_all]
  rfl
theorem s_StartS : FTold Try.prog 29 startS := walkedF (fs := fs) (ss := ss_StartS) (loop := loops_StartS) tysOk mixed fnsOk ssOk_StartS 10 29 [lawD, F32, L32] [L32, .bool] rfl _ fun ((a, b, c, n), m, l) r h => (t_StartS a b c n m l).trans (p_StartS a b c n m l r h)
def L_StartI_1 : LSpec := ⟨[1, 6, 15, 16, 17], ⟨Shs.at 35 [(1, (.fn (Fn.func 78) .nil (.cons (.ptr 1028 0 0) (.cons (.ptr 1029 0 0) .nil)))), (6, (.slc 1120985416000)), (15, (.slc 2)), (16, (.int IntKind.i64)), (17, (.int IntKind.i64))], [(2, (.arr false (EK.flt FloatKind.f32))), (1028, (.vals true (.cons (.flt FloatKind.f32) (.cons (.flt FloatKind.f32) (.cons (.flt FloatKind.f32) (.cons (.int IntKind.i64) .nil)))))), (1029, (.vals true (.cons (.flt FloatKind.f32) .nil))), (1031, (.arr true (EK.flt FloatKind.f32))), (1120985416000, (.arr true (EK.flt FloatKind.f32)))]⟩, [⟨.ret, [4, 5], ⟨Shs.at 35 [(4, (.slc 1120985416000)), (5, .bool)], [(2, (.arr false (EK.flt FloatKind.f32))), (1028, (.vals true (.cons (.flt FloatKind.f32) (.cons (.flt FloatKind.f32) (.cons (.flt FloatKind.f32) (.cons (.int IntKind.i64) .nil)))))), (1029, (.vals true (.cons (.flt FloatKind.f32) .nil))), (1031, (.arr true (EK.flt FloatKind.f32))), (1120985416000, (.arr true (EK.flt FloatKind.f32)))]⟩⟩, ⟨.ext 0, [6], ⟨Shs.at 35 [(6, (.slc 1120985416000))], [(2, (.arr false (EK.flt FloatKind.f32))), (1028, (.vals true (.cons (.flt FloatKind.f32) (.cons (.flt FloatKind.f32) (.cons (.flt FloatKind.f32) (.cons (.int IntKind.i64) .nil)))))), (1029, (.vals true (.cons (.flt FloatKind.f32) .nil))), (1031, (.arr true (EK.flt FloatKind.f32))), (1120985416000, (.arr true (EK.flt FloatKind.f32)))]⟩⟩], fun _ => bigN⟩
def loops_StartI (f k n : Nat) : Option LSpec := bif (Nat.beq f 77 && Nat.beq k 5 && Nat.beq n 1043) then some L_StartI_1 else none
abbrev S_StartI_1 : Type := (((Unit × Unit) × (Nat × (Nat × (Int × (Int × Unit))))) × ((List (Fl .f32)) × (((Fl .f32) × ((Fl .f32) × ((Fl .f32) × (Int × Unit)))) × (((Fl .f32) × Unit) × ((List (Fl .f32)) × ((List (Fl .f32)) × Unit))))))
abbrev R_StartI_1 : Type := (((Nat × (Bool × Unit)) × ((List (Fl .f32)) × (((Fl .f32) × ((Fl .f32) × ((Fl .f32) × (Int × Unit)))) × (((Fl .f32) × Unit) × ((List (Fl .f32)) × ((List (Fl .f32)) × Unit)))))) ⊕ ((Nat × Unit) × ((List (Fl .f32)) × (((Fl .f32) × ((Fl .f32) × ((Fl .f32) × (Int × Unit)))) × (((Fl .f32) × Unit) × ((List (Fl .f32)) × ((List (Fl .f32)) × Unit)))))))
noncomputable def B_StartI_1 (y : S_StartI_1) : Option (S_StartI_1 ⊕ R_StartI_1) := bif decide (y.1.2.2.2.2.1 < y.1.2.2.2.1) then (bif inB y.1.2.2.2.2.1 y.1.2.2.1 then (Option.bind (timeG ((y.2.2.1.1, y.2.2.1.2.1, y.2.2.1.2.2.1, y.2.2.1.2.2.2.1), List.getD y.2.1 (0 + Int.toNat y.1.2.2.2.2.1) dN, y.2.2.2.1.1)) fun (r3 : ((Fl .f32) × Bool)) => (bif !r3.2 then (some (Sum.inr (Sum.inl (((0, (false, ())), (y.2.1, ((y.2.2.1.1, (y.2.2.1.2.1, (y.2.2.1.2.2.1, (y.2.2.1.2.2.2.1, ())))), ((y.2.2.2.1.1, ()), (y.2.2.2.2.1, ([], ())))))))))) else (bif decide (y.1.2.1 + 1 ≤ maxA) then (some (Sum.inl (((((), ()), ((sub y.2.2.2.2.2.1 0 y.1.2.1 ++ [r3.1]).length, (y.1.2.2.1, (y.1.2.2.2.1, (IntKind.i64.wrap (y.1.2.2.2.2.1 + 1), ()))))), (y.2.1, ((y.2.2.1.1, (y.2.2.1.2.1, (y.2.2.1.2.2.1, (y.2.2.1.2.2.2.1, ())))), ((y.2.2.2.1.1, ()), (y.2.2.2.2.1, (sub y.2.2.2.2.2.1 0 y.1.2.1 ++ [r3.1], ()))))))))) else (none)))) else (none)) else (some (Sum.inr (Sum.inr (((y.1.2.1, ()), (y.2.1, ((y.2.2.1.1, (y.2.2.1.2.1, (y.2.2.1.2.2.1, (y.2.2.1.2.2.2.1, ())))), ((y.2.2.2.1.1, ()), (y.2.2.2.2.1, (y.2.2.2.2.2.1, ()))))))))))
noncomputable def ss_StartI : List (Nat × FSpec) := [(75, okLS), (76, shS), (79, timeS)]
theorem ssOk_StartI : FTolds Try.prog ss_StartI := ⟨s_lawI, s_shareI, s_TimeI, trivial⟩
noncomputable def Γ_StartI : Ctx := ctxOf Try.prog tys fs ss_StartI loops_StartI
noncomputable def d_StartI (a b c : Fl .f32) (n : Int) (m : Fl .f32) (l : LS) : Option (((List (Fl .f32)) × Bool)) := Option.bind (okLG (a, b, c, n)) fun (r0 : Bool) => (bif !r0 then (some (([], false))) else (Option.bind (shG m) fun (r1 : Bool) => (bif !r1 then (some (([], false))) else (bif decide (((List.length l : Nat) : Int) > 128) then (some (([], false))) else (Option.bind (iter B_StartI_1 bigN (((((), ()), (0, (List.length l, (((List.length l : Nat) : Int), (0, ()))))), (l, ((a, (b, (c, (n, ())))), ((m, ()), ([], ([], ())))))))) fun (r2 : (((Nat × (Bool × Unit)) × ((List (Fl .f32)) × (((Fl .f32) × ((Fl .f32) × ((Fl .f32) × (Int × Unit)))) × (((Fl .f32) × Unit) × ((List (Fl .f32)) × ((List (Fl .f32)) × Unit)))))) ⊕ ((Nat × Unit) × ((List (Fl .f32)) × (((Fl .f32) × ((Fl .f32) × ((Fl .f32) × (Int × Unit)))) × (((Fl .f32) × Unit) × ((List (Fl .f32)) × ((List (Fl .f32)) × Unit)))))))) => (match r2 with | .inl x4 => (some ((sub x4.2.2.2.2.2.1 0 x4.1.1, x4.1.2.1))) | .inr x4 => (some ((sub x4.2.2.2.2.2.1 0 x4.1.1, true)))))))))
theorem t_StartI (a b c : Fl .f32) (n : Int) (m : Fl .f32) (l : LS) : (fnT Γ_StartI 10 32 [lawD, F32, L32] [L32, .bool] ((a, b, c, n), m, l)).den = d_StartI a b c n m l := by kernel_rfl
theorem p_StartI (a b c : Fl .f32) (n : Int) (m : Fl .f32) (l : LS) (r : ((List (Fl .f32)) × Bool)) (h : startG ((a, b, c, n), m, l) = some r) : d_StartI a b c n m l = some r := by
  refine Eq.trans ?_ h
  unfold d_StartI startG okLG shG
  simp only [Option.bind_some]
  cases h1 : okL (a, b, c, n) with
  | false => rw [start_no fun k => by have := k.1; rw [h1] at this; cases this]; rfl
  | true =>
    cases h2 : shB m with
    | false => rw [start_no fun k => by have := k.2.1; rw [h2] at this; cases this]; rfl
    | true =>
      by_cases h3 : l.length ≤ 128
      · rw [decide_eq_false (show ¬ (l.length : Int) > 128 by omega)]
        simp only [Bool.not_true, cond_false]
        have key1 := iter_find' (B := B_StartI_1) (fun i => ((((), ()), (i, (l.length, ((l.length : Int), ((i : Int), ()))))), (l, ((a, (b, (c, (n, ())))), ((m, ()), ([], (mapR (fun i => (TimeF (a, b, c, n) (l.getD i dN) m).1) i, ()))))))) 0 l.length (fun i => if (TimeF (a, b, c, n) (l.getD i dN) m).2 = true then none else some (.inl ((0, (false, ())), (l, ((a, (b, (c, (n, ())))), ((m, ()), ([], ([], ())))))))) (.inr ((l.length, ()), (l, ((a, (b, (c, (n, ())))), ((m, ()), ([], (mapR (fun i => (TimeF (a, b, c, n) (l.getD i dN) m).1) l.length, ()))))))) (Nat.zero_le _) (by omega) (fun i _ hi => by
          unfold B_StartI_1 timeG
          simp only [ltT hi, inB_of hi, inc64 hi (show l.length < 2 ^ 62 by omega), cond_true, Int.toNat_natCast, Nat.zero_add, Option.bind_some]
          by_cases e2 : (TimeF (a, b, c, n) (l.getD i dN) m).2 = true
          · rw [if_pos e2, e2]
            simp only [maxA_one (show i < 2 ^ 30 by omega), cond_true, sub_mapR, ← mapR_succ (fun i => (TimeF (a, b, c, n) (l.getD i dN) m).1) i, mapR_len, Bool.not_true, cond_false]
          · rw [if_neg e2, Bool.eq_false_iff.2 e2]; rfl) (by
          unfold B_StartI_1
          simp only [ltF, cond_false])
        refine (congrArg (fun z => Option.bind z _) (show iter B_StartI_1 bigN _ = _ from key1)).trans ?_
        rcases firstOf_const (fun i => (TimeF (a, b, c, n) (l.getD i dN) m).2) (.inl ((0, (false, ())), (l, ((a, (b, (c, (n, ())))), ((m, ()), ([], ([], ())))))) : R_StartI_1) (l.length - 0) 0 with ⟨q, hall⟩ | ⟨q, j, _, hj, hbad⟩
        · rw [q]
          have ok : stOk (a, b, c, n) m l := ⟨h1, h2, h3, fun i hi => hall i (Nat.zero_le _) (by omega)⟩
          rw [start_yes ok]
          simp only [Option.getD_none, Option.bind_some, sub_mapR]
        · rw [q, start_no fun k => by have := k.2.2.2 j (by omega); rw [hbad] at this; cases this]
          rfl
      · rw [start_no fun k => h3 k.2.2.1, decide_eq_true (show (l.length : Int) > 128 by omega)]; rfl
theorem s_StartI : FTold Try.prog 32 startS := walkedF (fs := fs) (ss := ss_StartI) (loop := loops_StartI) tysOk mixed fnsOk ssOk_StartI 10 32 [lawD, F32, L32] [L32, .bool] rfl _ fun ((a, b, c, n), m, l) r h => (t_StartI a b c n m l).trans (p_StartI a b c n m l r h)
noncomputable def yesG (_ : LT × Fl .f32 × LS) : Option Bool := some true
noncomputable def yesS : FSpec := ⟨[lawD, F32, L32], [.bool], yesG⟩
def L_lawStart_1 : LSpec := ⟨[0, 1, 5], ⟨Shs.at 20 [(0, (.slc 1081320)), (1, (.int IntKind.i64)), (5, (.int IntKind.i64))], [(2, (.arr false (EK.flt FloatKind.f32))), (1028, (.vals true (.cons (.flt FloatKind.f32) (.cons (.flt FloatKind.f32) (.cons (.flt FloatKind.f32) (.cons (.int IntKind.i64) .nil)))))), (1076200, (.arr true (EK.flt FloatKind.f32))), (1077224, (.arr true (EK.flt FloatKind.f32))), (1081320, (.arr true (EK.flt FloatKind.f32))), (1087464, (.arr true (EK.flt FloatKind.f32))), (1101800, (.arr true (EK.flt FloatKind.f32)))]⟩, [⟨.ext 0, [1], ⟨Shs.at 20 [(1, (.int IntKind.i64))], [(2, (.arr false (EK.flt FloatKind.f32))), (1028, (.vals true (.cons (.flt FloatKind.f32) (.cons (.flt FloatKind.f32) (.cons (.flt FloatKind.f32) (.cons (.int IntKind.i64) .nil)))))), (1076200, (.arr true (EK.flt FloatKind.f32))), (1077224, (.arr true (EK.flt FloatKind.f32))), (1081320, (.arr true (EK.flt FloatKind.f32))), (1087464, (.arr true (EK.flt FloatKind.f32))), (1101800, (.arr true (EK.flt FloatKind.f32)))]⟩⟩], fun _ => bigN⟩
def L_lawStart_2 : LSpec := ⟨[0, 1, 5], ⟨Shs.at 20 [(0, (.slc 1087464)), (1, (.int IntKind.i64)), (5, (.int IntKind.i64))], [(2, (.arr false (EK.flt FloatKind.f32))), (1028, (.vals true (.cons (.flt FloatKind.f32) (.cons (.flt FloatKind.f32) (.cons (.flt FloatKind.f32) (.cons (.int IntKind.i64) .nil)))))), (1076200, (.arr true (EK.flt FloatKind.f32))), (1077224, (.arr true (EK.flt FloatKind.f32))), (1081320, (.arr true (EK.flt FloatKind.f32))), (1087464, (.arr true (EK.flt FloatKind.f32))), (1101800, (.arr true (EK.flt FloatKind.f32)))]⟩, [⟨.ext 0, [1], ⟨Shs.at 20 [(1, (.int IntKind.i64))], [(2, (.arr false (EK.flt FloatKind.f32))), (1028, (.vals true (.cons (.flt FloatKind.f32) (.cons (.flt FloatKind.f32) (.cons (.flt FloatKind.f32) (.cons (.int IntKind.i64) .nil)))))), (1076200, (.arr true (EK.flt FloatKind.f32))), (1077224, (.arr true (EK.flt FloatKind.f32))), (1081320, (.arr true (EK.flt FloatKind.f32))), (1087464, (.arr true (EK.flt FloatKind.f32))), (1101800, (.arr true (EK.flt FloatKind.f32)))]⟩⟩], fun _ => bigN⟩
def loops_lawStart (f k n : Nat) : Option LSpec := bif (Nat.beq f 27 && Nat.beq k 2 && Nat.beq n 1080) then some L_lawStart_1 else bif (Nat.beq f 27 && Nat.beq k 2 && Nat.beq n 1096) then some L_lawStart_2 else none
abbrev S_lawStart_1 : Type := ((Nat × (Int × (Int × Unit))) × ((List (Fl .f32)) × (((Fl .f32) × ((Fl .f32) × ((Fl .f32) × (Int × Unit)))) × ((List (Fl .f32)) × ((List (Fl .f32)) × ((List (Fl .f32)) × ((List (Fl .f32)) × ((List (Fl .f32)) × Unit))))))))
abbrev R_lawStart_1 : Type := ((Int × Unit) × ((List (Fl .f32)) × (((Fl .f32) × ((Fl .f32) × ((Fl .f32) × (Int × Unit)))) × ((List (Fl .f32)) × ((List (Fl .f32)) × ((List (Fl .f32)) × ((List (Fl .f32)) × ((List (Fl .f32)) × Unit))))))))
noncomputable def B_lawStart_1 (y : S_lawStart_1) : Option (S_lawStart_1 ⊕ R_lawStart_1) := bif decide (y.1.2.2.1 < (y.1.1 : Int)) then (bif inB y.1.2.2.1 y.1.1 then (some (Sum.inl (((y.1.1, (IntKind.i64.wrap (y.1.2.1 + 1), (IntKind.i64.wrap (y.1.2.2.1 + 1), ()))), (y.2.1, ((y.2.2.1.1, (y.2.2.1.2.1, (y.2.2.1.2.2.1, (y.2.2.1.2.2.2.1, ())))), (y.2.2.2.1, (y.2.2.2.2.1, (List.set y.2.2.2.2.2.1 (0 + Int.toNat y.1.2.2.1) (fofInt .f32 y.1.2.1), (y.2.2.2.2.2.2.1, (y.2.2.2.2.2.2.2.1, ()))))))))))) else (none)) else (some (Sum.inr (((y.1.2.1, ()), (y.2.1, ((y.2.2.1.1, (y.2.2.1.2.1, (y.2.2.1.2.2.1, (y.2.2.1.2.2.2.1, ())))), (y.2.2.2.1, (y.2.2.2.2.1, (y.2.2.2.2.2.1, (y.2.2.2.2.2.2.1, (y.2.2.2.2.2.2.2.1, ())))))))))))
abbrev S_lawStart_2 : Type := ((Nat × (Int × (Int × Unit))) × ((List (Fl .f32)) × (((Fl .f32) × ((Fl .f32) × ((Fl .f32) × (Int × Unit)))) × ((List (Fl .f32)) × ((List (Fl .f32)) × ((List (Fl .f32)) × ((List (Fl .f32)) × ((List (Fl .f32)) × Unit))))))))
abbrev R_lawStart_2 : Type := ((Int × Unit) × ((List (Fl .f32)) × (((Fl .f32) × ((Fl .f32) × ((Fl .f32) × (Int × Unit)))) × ((List (Fl .f32)) × ((List (Fl .f32)) × ((List (Fl .f32)) × ((List (Fl .f32)) × ((List (Fl .f32)) × Unit))))))))
noncomputable def B_lawStart_2 (y : S_lawStart_2) : Option (S_lawStart_2 ⊕ R_lawStart_2) := bif decide (y.1.2.2.1 < (y.1.1 : Int)) then (bif inB y.1.2.2.1 y.1.1 then (some (Sum.inl (((y.1.1, (IntKind.i64.wrap (y.1.2.1 + 1), (IntKind.i64.wrap (y.1.2.2.1 + 1), ()))), (y.2.1, ((y.2.2.1.1, (y.2.2.1.2.1, (y.2.2.1.2.2.1, (y.2.2.1.2.2.2.1, ())))), (y.2.2.2.1, (y.2.2.2.2.1, (y.2.2.2.2.2.1, (List.set y.2.2.2.2.2.2.1 (0 + Int.toNat y.1.2.2.1) (fofInt .f32 y.1.2.1), (y.2.2.2.2.2.2.2.1, ()))))))))))) else (none)) else (some (Sum.inr (((y.1.2.1, ()), (y.2.1, ((y.2.2.1.1, (y.2.2.1.2.1, (y.2.2.1.2.2.1, (y.2.2.1.2.2.2.1, ())))), (y.2.2.2.1, (y.2.2.2.2.1, (y.2.2.2.2.2.1, (y.2.2.2.2.2.2.1, (y.2.2.2.2.2.2.2.1, ())))))))))))
noncomputable def ss_lawStart : List (Nat × FSpec) := [(30, lawCS), (31, copyS), (29, startS), (32, startS), (26, selfLS), (28, heldS)]
theorem ssOk_lawStart : FTolds Try.prog ss_lawStart := ⟨s_toLaw, s_toL, s_StartS, s_StartI, s_eqL, s_heldL, trivial⟩
noncomputable def Γ_lawStart : Ctx := ctxOf Try.prog tys fs ss_lawStart loops_lawStart
noncomputable def d_lawStart (a b c : Fl .f32) (n : Int) (m : Fl .f32) (l : LS) : Option (Bool) := bif decide (((List.length l : Nat) : Int) > 1048576) then (some (true)) else (Option.bind (lawCG (a, b, c, n)) fun (r0 : ((Fl .f32) × ((Fl .f32) × ((Fl .f32) × Int)))) => (Option.bind (copyG (sub l 0 (List.length l))) fun (r1 : (List (Fl .f32))) => (Option.bind (startG ((r0.1, r0.2.1, r0.2.2.1, r0.2.2.2), m, sub r1 0 (List.length r1))) fun (r2 : ((List (Fl .f32)) × Bool)) => (Option.bind (copyG (sub l 0 (List.length l))) fun (r3 : (List (Fl .f32))) => (Option.bind (lawCG (a, b, c, n)) fun (r4 : ((Fl .f32) × ((Fl .f32) × ((Fl .f32) × Int)))) => (Option.bind (startG ((r4.1, r4.2.1, r4.2.2.1, r4.2.2.2), m, sub r3 0 (List.length r3))) fun (r5 : ((List (Fl .f32)) × Bool)) => (Option.bind (selfLG (sub r5.1 0 (List.length r5.1), sub r2.1 0 (List.length r2.1))) fun (r6 : Bool) => (bif !r6 then (some (false)) else (bif !r5.2 == r2.2 then (some (false)) else (Option.bind (copyG (sub l 0 (List.length l))) fun (r7 : (List (Fl .f32))) => (Option.bind (selfLG (sub r3 0 (List.length r3), sub r7 0 (List.length r7))) fun (r8 : Bool) => (bif !r8 then (some (false)) else (Option.bind (iter B_lawStart_1 bigN (((List.length r3, (1, (0, ()))), (l, ((a, (b, (c, (n, ())))), (r1, (r2.1, (r3, (r5.1, (r7, ())))))))))) fun (r9 : ((Int × Unit) × ((List (Fl .f32)) × (((Fl .f32) × ((Fl .f32) × ((Fl .f32) × (Int × Unit)))) × ((List (Fl .f32)) × ((List (Fl .f32)) × ((List (Fl .f32)) × ((List (Fl .f32)) × ((List (Fl .f32)) × Unit))))))))) => (bif decide (r9.1.1 < 0) then (some (false)) else (Option.bind (selfLG (sub r9.2.2.2.2.2.2.1 0 (List.length r5.1), sub r9.2.2.2.2.1 0 (List.length r2.1))) fun (r10 : Bool) => (bif !r10 then (some (false)) else (bif !r5.2 == r2.2 then (some (false)) else (Option.bind (iter B_lawStart_2 bigN (((List.length r5.1, (1, (0, ()))), (r9.2.1, ((r9.2.2.1.1, (r9.2.2.1.2.1, (r9.2.2.1.2.2.1, (r9.2.2.1.2.2.2.1, ())))), (r9.2.2.2.1, (r9.2.2.2.2.1, (r9.2.2.2.2.2.1, (r9.2.2.2.2.2.2.1, (r9.2.2.2.2.2.2.2.1, ())))))))))) fun (r11 : ((Int × Unit) × ((List (Fl .f32)) × (((Fl .f32) × ((Fl .f32) × ((Fl .f32) × (Int × Unit)))) × ((List (Fl .f32)) × ((List (Fl .f32)) × ((List (Fl .f32)) × ((List (Fl .f32)) × ((List (Fl .f32)) × Unit))))))))) => (Option.bind (heldG (sub r11.2.2.2.2.2.2.1 0 (List.length r5.1), 1)) fun (r12 : Int) => (bif decide (r12 < 0) then (some (false)) else (bif r12 != r11.1.1 then (some (false)) else (Option.bind (lawCG (r11.2.2.1.1, r11.2.2.1.2.1, r11.2.2.1.2.2.1, r11.2.2.1.2.2.2.1)) fun (r13 : ((Fl .f32) × ((Fl .f32) × ((Fl .f32) × Int)))) => (Option.bind (copyG (sub r11.2.1 0 (List.length l))) fun (r14 : (List (Fl .f32))) => (Option.bind (startG ((r13.1, r13.2.1, r13.2.2.1, r13.2.2.2), m, sub r14 0 (List.length r14))) fun (r15 : ((List (Fl .f32)) × Bool)) => (Option.bind (selfLG (sub r15.1 0 (List.length r15.1), sub r11.2.2.2.2.1 0 (List.length r2.1))) fun (r16 : Bool) => (bif !r16 then (some (false)) else (bif !r15.2 == r2.2 then (some (false)) else (Option.bind (heldG (sub r11.2.2.2.2.2.2.1 0 (List.length r5.1), 1)) fun (r17 : Int) => (bif decide (r17 < 0) then (some (false)) else (bif r17 != r11.1.1 then (some (false)) else (some (true))))))))))))))))))))))))))))))))
theorem t_lawStart (a b c : Fl .f32) (n : Int) (m : Fl .f32) (l : LS) : (fnT Γ_lawStart 10 6 [lawD, F32, L32] [.bool] ((a, b, c, n), m, l)).den = d_lawStart a b c n m l := by kernel_rfl
theorem k_lawStart_1 {k : Int} {v0 : (List (Fl .f32))} {v1 : (Fl .f32)} {v2 : (Fl .f32)} {v3 : (Fl .f32)} {v4 : Int} {v6 : (List (Fl .f32))} {v7 : (List (Fl .f32))} {v8 : (List (Fl .f32))} {v9 : (List (Fl .f32))} {v10 : (List (Fl .f32))} (hb : v8.length < 2 ^ 60) (h0 : 0 ≤ k) (h1 : k < 2 ^ 60) : iter B_lawStart_1 bigN ((v8.length, (k, (0, ()))), (v0, ((v1, (v2, (v3, (v4, ())))), (v6, (v7, (v8, (v9, (v10, ())))))))) = some ((((k + (v8.length : Int)), ()), (v0, ((v1, (v2, (v3, (v4, ())))), (v6, (v7, ((marks k v8.length), (v9, (v10, ()))))))))) := by
  have key := iter_for (B := B_lawStart_1) (fun i => ((v8.length, (k + i, ((i : Int), ()))), (v0, ((v1, (v2, (v3, (v4, ())))), (v6, (v7, ((markUp k v8 i), (v9, (v10, ()))))))))) 0 v8.length ((((k + (v8.length : Int)), ()), (v0, ((v1, (v2, (v3, (v4, ())))), (v6, (v7, ((marks k v8.length), (v9, (v10, ()))))))))) (Nat.zero_le _) (by omega) (fun i _ hi => by
    unfold B_lawStart_1
    simp only [ltT hi, inB_of hi, inc64 hi (show v8.length < 2 ^ 62 by omega), wrapAdd h0 h1 (show i < 2 ^ 60 by omega), Int.toNat_natCast, Nat.zero_add, cond_true, markUp_succ k v8 hi]) (by
    unfold B_lawStart_1
    simp only [ltF, cond_false, markUp_end])
  simpa only [markUp_zero, Int.natCast_zero, Int.add_zero] using key
theorem k_lawStart_2 {k : Int} {v0 : (List (Fl .f32))} {v1 : (Fl .f32)} {v2 : (Fl .f32)} {v3 : (Fl .f32)} {v4 : Int} {v6 : (List (Fl .f32))} {v7 : (List (Fl .f32))} {v8 : (List (Fl .f32))} {v9 : (List (Fl .f32))} {v10 : (List (Fl .f32))} (hb : v9.length < 2 ^ 60) (h0 : 0 ≤ k) (h1 : k < 2 ^ 60) : iter B_lawStart_2 bigN ((v9.length, (k, (0, ()))), (v0, ((v1, (v2, (v3, (v4, ())))), (v6, (v7, (v8, (v9, (v10, ())))))))) = some ((((k + (v9.length : Int)), ()), (v0, ((v1, (v2, (v3, (v4, ())))), (v6, (v7, (v8, ((marks k v9.length), (v10, ()))))))))) := by
  have key := iter_for (B := B_lawStart_2) (fun i => ((v9.length, (k + i, ((i : Int), ()))), (v0, ((v1, (v2, (v3, (v4, ())))), (v6, (v7, (v8, ((markUp k v9 i), (v10, ()))))))))) 0 v9.length ((((k + (v9.length : Int)), ()), (v0, ((v1, (v2, (v3, (v4, ())))), (v6, (v7, (v8, ((marks k v9.length), (v10, ()))))))))) (Nat.zero_le _) (by omega) (fun i _ hi => by
    unfold B_lawStart_2
    simp only [ltT hi, inB_of hi, inc64 hi (show v9.length < 2 ^ 62 by omega), wrapAdd h0 h1 (show i < 2 ^ 60 by omega), Int.toNat_natCast, Nat.zero_add, cond_true, markUp_succ k v9 hi]) (by
    unfold B_lawStart_2
    simp only [ltF, cond_false, markUp_end])
  simpa only [markUp_zero, Int.natCast_zero, Int.add_zero] using key
theorem p_lawStart (a b c : Fl .f32) (n : Int) (m : Fl .f32) (l : LS) (r : Bool) (h : yesG ((a, b, c, n), m, l) = some r) : d_lawStart a b c n m l = some r := by
  cases h
  unfold d_lawStart
  by_cases hl : (l.length : Int) > 1048576
  · rw [decide_eq_true hl]; rfl
  · obtain ⟨⟨g, ok⟩, hg⟩ : ∃ z, startG ((a, b, c, n), m, l) = some z := ⟨_, rfl⟩
    have hgl : g.length ≤ 128 := by have := start_len (a, b, c, n) m l; rw [show startF (a, b, c, n) m l = (g, ok) from Option.some.inj hg] at this; exact this
    have c1 : copyG l = some l := if_pos (by omega)
    have s1 : selfLG (g, g) = some true := if_pos ⟨rfl, by show g.length < 2 ^ 62; omega⟩
    have s2 : selfLG (l, l) = some true := if_pos ⟨rfl, by show l.length < 2 ^ 62; omega⟩
    have q0 : lawCG (a, b, c, n) = some (a, b, c, n) := rfl
    have hlt1 : decide (1 + (l.length : Int) < 0) = false := decide_eq_false (by omega)
    have hlt2 : decide (1 + (g.length : Int) < 0) = false := decide_eq_false (by omega)
    have hh := held_marks (n := g.length) (by omega)
    rw [decide_eq_false hl]
    simp only [cond_false, q0, c1, hg, Option.bind_some, sub_all, s1, s2, Bool.not_true, eq_not_self]
    refine (congrArg (fun z => Option.bind z _) (k_lawStart_1 (by omega) (by decide) (by decide))).trans ?_
    simp only [Option.bind_some, hlt1, cond_false, sub_all, s1, Bool.not_true, eq_not_self]
    refine (congrArg (fun z => Option.bind z _) (k_lawStart_2 (by omega) (by decide) (by decide))).trans ?_
    simp only [Option.bind_some, sub_marks, hh, hlt2, cond_false, eq_bne, q0, c1, hg, sub_all, s1, Bool.not_true, eq_not_self]
theorem s_lawStart : FTold Try.prog 6 yesS := walkedF (fs := fs) (ss := ss_lawStart) (loop := loops_lawStart) tysOk mixed fnsOk ssOk_lawStart 10 6 [lawD, F32, L32] [.bool] rfl _ fun ((a, b, c, n), m, l) r h => (t_lawStart a b c n m l).trans (p_lawStart a b c n m l r h)
open Go.RowKit Go.ChangeShapes Go.WideShapes Go.ChangeAt
set_option maxRecDepth 100000 in
theorem lifted_lawStart (os : Os) (started : os.Started) (H : Type) (enc : TypeId × Value → H) :
    ReturnsInHanded {} Try.checked os 6 .any (Rows.fnExactStartCurveSpec.pre6 enc Try.prog Try.f6 Rows.fnExactStartCurveRow.domain false) (Rows.fnExactStartCurveSpec.post enc Try.prog Try.f6 false true false false) := by
  refine returnsInHanded_of_change (C := Try.checked) own started (by kernel_rfl) Try.func6
    (ChangeSpec.witness6 (enc := enc) (C := Try.checked) false ⟨#[], #[.agg #[.float .f32 0, .float .f32 0, .float .f32 0, .int .i64 0], .float .f32 0, .slice none 0 0], []⟩ 8 (by kernel_rfl) (by kernel_rfl) (by kernel_rfl) (by kernel_rfl)) ?_
  intro W base args ds gs before hval hW _ _
  exact law_post (P := Try.prog) (fn := Try.f6) (s := Rows.fnExactStartCurveSpec) laidOut s_lawStart.out Try.func6 rfl (by kernel_rfl) (by kernel_rfl) (by kernel_rfl) rfl Try.underlying4 rfl (fun ds h => by
    match ds, h with
    | [d0, d1, d2], _ => exact ⟨rfl, rfl, rfl⟩) (fun _ _ => rfl) W base args ds gs before hval hW

theorem over6 : Rows.FnExactStartCurveSaid :=
  OpenClaim.holds_of_wide 6 Try.f6 rfl rfl rfl rfl rfl rfl rfl ⟨rfl, rfl, rfl, rfl, rfl⟩ rfl rfl rfl rfl rfl (by kernel_rfl) Try.func6 (by kernel_rfl)
    (of_decide_eq_true (by kernel_rfl)) (by unfold Func.isWrapper; first | (rw [if_pos (by decide +kernel)]; kernel_rfl) | (rw [if_neg (by decide +kernel)]; exact ⟨rfl, rfl⟩))
    (fun os started H enc _ => lifted_lawStart os started H enc)
def L_NoseS_1 : LSpec := ⟨[9, 11, 27, 28], ⟨Shs.at 47 [(9, (.slc 2146435456)), (11, (.int IntKind.i64)), (27, (.int IntKind.i64)), (28, (.int IntKind.i64))], [(2, (.arr false (EK.flt FloatKind.f32))), (2146435456, (.arr true (EK.flt FloatKind.f32)))]⟩, [⟨.ext 0, [9, 11], ⟨Shs.at 47 [(9, (.slc 2146435456)), (11, (.int IntKind.i64))], [(2, (.arr false (EK.flt FloatKind.f32))), (2146435456, (.arr true (EK.flt FloatKind.f32)))]⟩⟩], fun _ => bigN⟩
def loops_NoseS (f k n : Nat) : Option LSpec := bif (Nat.beq f 33 && Nat.beq k 6 && Nat.beq n 1) then some L_NoseS_1 else none
abbrev S_NoseS_1 : Type := ((Nat × (Int × (Int × (Int × Unit)))) × ((List (Fl .f32)) × ((List (Fl .f32)) × Unit)))
abbrev R_NoseS_1 : Type := ((Nat × (Int × Unit)) × ((List (Fl .f32)) × ((List (Fl .f32)) × Unit)))
noncomputable def B_NoseS_1 (y : S_NoseS_1) : Option (S_NoseS_1 ⊕ R_NoseS_1) := bif decide (y.1.2.2.2.1 < y.1.2.2.1) then (bif inB y.1.2.2.2.1 y.1.1 then (bif inB y.1.2.1 y.1.1 then (bif flt (List.getD y.2.2.1 (0 + Int.toNat y.1.2.2.2.1) dN) (List.getD y.2.2.1 (0 + Int.toNat y.1.2.1) dN) then (some (Sum.inl (((y.1.1, (y.1.2.2.2.1, (y.1.2.2.1, (IntKind.i64.wrap (y.1.2.2.2.1 + 1), ())))), (y.2.1, (y.2.2.1, ())))))) else (some (Sum.inl (((y.1.1, (y.1.2.1, (y.1.2.2.1, (IntKind.i64.wrap (y.1.2.2.2.1 + 1), ())))), (y.2.1, (y.2.2.1, ()))))))) else (none)) else (none)) else (some (Sum.inr (((y.1.1, (y.1.2.1, ())), (y.2.1, (y.2.2.1, ()))))))
noncomputable def ss_NoseS : List (Nat × FSpec) := [(74, startPS)]
theorem ssOk_NoseS : FTolds Try.prog ss_NoseS := ⟨s_startsS, trivial⟩
noncomputable def Γ_NoseS : Ctx := ctxOf Try.prog tys fs ss_NoseS loops_NoseS
noncomputable def d_NoseS (a b c : Fl .f32) (n : Int) (m : Fl .f32) (l : LS) : Option ((Int × ((Fl .f32) × Bool))) := Option.bind (startPG ((a, b, c, n), m, sub l 0 (List.length l))) fun (r0 : ((List (Fl .f32)) × Bool)) => (bif !r0.2 then (some ((0, (Fl.of .f32 0, false)))) else (bif ((List.length r0.1 : Nat) : Int) == 0 then (some ((0, (Fl.of .f32 0, false)))) else (Option.bind (iter B_NoseS_1 bigN (((List.length r0.1, (0, (((List.length r0.1 : Nat) : Int), (0, ())))), (l, (r0.1, ()))))) fun (r1 : ((Nat × (Int × Unit)) × ((List (Fl .f32)) × ((List (Fl .f32)) × Unit)))) => (bif inB r1.1.2.1 r1.1.1 then (some ((r1.1.2.1, (List.getD r1.2.2.1 (0 + Int.toNat r1.1.2.1) dN, true)))) else (none)))))
theorem t_NoseS (a b c : Fl .f32) (n : Int) (m : Fl .f32) (l : LS) : (fnT Γ_NoseS 10 33 [lawD, F32, L32] [I64, F32, .bool] ((a, b, c, n), m, l)).den = d_NoseS a b c n m l := by kernel_rfl
theorem p_NoseS (a b c : Fl .f32) (n : Int) (m : Fl .f32) (l : LS) (r : (Int × ((Fl .f32) × Bool))) (h : noseG ((a, b, c, n), m, l) = some r) : d_NoseS a b c n m l = some r := by
  refine Eq.trans ?_ h
  unfold d_NoseS noseG noseF
  have q : startPG ((a, b, c, n), m, l) = some (startF (a, b, c, n) m l) := rfl
  simp only [sub_all, q, Option.bind_some]
  have hl := start_len (a, b, c, n) m l
  generalize startF (a, b, c, n) m l = z at hl ⊢
  obtain ⟨g, ok⟩ := z
  cases ok with
  | false => rw [if_neg (fun k => by cases k.1)]; rfl
  | true =>
    by_cases h0 : 0 < g.length
    · have e0 : ((g.length : Int) == 0) = false := by simp; intro hc; rw [hc] at h0; simp at h0
      have hl' : g.length ≤ 128 := hl
      simp only [Bool.not_true, cond_false, e0]
      have key := iter_for (B := B_NoseS_1) (fun i => ((g.length, (((bestN g i : Nat) : Int), ((g.length : Int), ((i : Int), ())))), (l, (g, ())))) 0 g.length ((g.length, (((bestN g g.length : Nat) : Int), ())), (l, (g, ()))) (Nat.zero_le _) (by omega) (fun i _ hi => by
        unfold B_NoseS_1
        simp only [ltT hi, inB_of hi, inB_of (bestN_lt g h0 i (by omega)), inc64 hi (show g.length < 2 ^ 62 by omega), cond_true, Int.toNat_natCast, Nat.zero_add, bestN]
        by_cases e : flt (g.getD i dN) (g.getD (bestN g i) dN) = true
        · rw [if_pos e, e]; rfl
        · rw [if_neg e, Bool.eq_false_iff.2 e]; rfl) (by
        unfold B_NoseS_1
        simp only [ltF, cond_false])
      refine (congrArg (fun z => Option.bind z _) (show iter B_NoseS_1 bigN _ = _ from key)).trans ?_
      rw [if_pos ⟨trivial, h0⟩]
      simp only [Option.bind_some, inB_of (bestN_lt g h0 g.length (Nat.le_refl _)), cond_true, Int.toNat_natCast, Nat.zero_add]
    · have e0 : g = [] := List.eq_nil_of_length_eq_zero (by omega)
      subst e0
      rw [if_neg (fun k => h0 k.2)]; rfl
theorem s_NoseS : FTold Try.prog 33 noseS := walkedF (fs := fs) (ss := ss_NoseS) (loop := loops_NoseS) tysOk mixed fnsOk ssOk_NoseS 10 33 [lawD, F32, L32] [I64, F32, .bool] rfl _ fun ((a, b, c, n), m, l) r h => (t_NoseS a b c n m l).trans (p_NoseS a b c n m l r h)
def L_NoseI_1 : LSpec := ⟨[9, 11, 28, 29, 30], ⟨Shs.at 48 [(9, (.slc 2146435456)), (11, (.int IntKind.i64)), (28, (.slc 2146435456)), (29, (.int IntKind.i64)), (30, (.int IntKind.i64))], [(2, (.arr false (EK.flt FloatKind.f32))), (2146435456, (.arr true (EK.flt FloatKind.f32)))]⟩, [⟨.ext 0, [9, 11], ⟨Shs.at 48 [(9, (.slc 2146435456)), (11, (.int IntKind.i64))], [(2, (.arr false (EK.flt FloatKind.f32))), (2146435456, (.arr true (EK.flt FloatKind.f32)))]⟩⟩], fun _ => bigN⟩
def loops_NoseI (f k n : Nat) : Option LSpec := bif (Nat.beq f 34 && Nat.beq k 6 && Nat.beq n 1) then some L_NoseI_1 else none
abbrev S_NoseI_1 : Type := ((Nat × (Int × (Nat × (Int × (Int × Unit))))) × ((List (Fl .f32)) × ((List (Fl .f32)) × Unit)))
abbrev R_NoseI_1 : Type := ((Nat × (Int × Unit)) × ((List (Fl .f32)) × ((List (Fl .f32)) × Unit)))
noncomputable def B_NoseI_1 (y : S_NoseI_1) : Option (S_NoseI_1 ⊕ R_NoseI_1) := bif decide (y.1.2.2.2.2.1 < y.1.2.2.2.1) then (bif inB y.1.2.2.2.2.1 y.1.2.2.1 then (bif inB y.1.2.1 y.1.1 then (bif flt (List.getD y.2.2.1 (0 + Int.toNat y.1.2.2.2.2.1) dN) (List.getD y.2.2.1 (0 + Int.toNat y.1.2.1) dN) then (some (Sum.inl (((y.1.1, (y.1.2.2.2.2.1, (y.1.2.2.1, (y.1.2.2.2.1, (IntKind.i64.wrap (y.1.2.2.2.2.1 + 1), ()))))), (y.2.1, (y.2.2.1, ())))))) else (some (Sum.inl (((y.1.1, (y.1.2.1, (y.1.2.2.1, (y.1.2.2.2.1, (IntKind.i64.wrap (y.1.2.2.2.2.1 + 1), ()))))), (y.2.1, (y.2.2.1, ()))))))) else (none)) else (none)) else (some (Sum.inr (((y.1.1, (y.1.2.1, ())), (y.2.1, (y.2.2.1, ()))))))
noncomputable def ss_NoseI : List (Nat × FSpec) := [(32, startS)]
theorem ssOk_NoseI : FTolds Try.prog ss_NoseI := ⟨s_StartI, trivial⟩
noncomputable def Γ_NoseI : Ctx := ctxOf Try.prog tys fs ss_NoseI loops_NoseI
noncomputable def d_NoseI (a b c : Fl .f32) (n : Int) (m : Fl .f32) (l : LS) : Option ((Int × ((Fl .f32) × Bool))) := Option.bind (startG ((a, b, c, n), m, sub l 0 (List.length l))) fun (r0 : ((List (Fl .f32)) × Bool)) => (bif !r0.2 then (some ((0, (Fl.of .f32 0, false)))) else (bif ((List.length r0.1 : Nat) : Int) == 0 then (some ((0, (Fl.of .f32 0, false)))) else (Option.bind (iter B_NoseI_1 bigN (((List.length r0.1, (0, (List.length r0.1, (((List.length r0.1 : Nat) : Int), (0, ()))))), (l, (r0.1, ()))))) fun (r1 : ((Nat × (Int × Unit)) × ((List (Fl .f32)) × ((List (Fl .f32)) × Unit)))) => (bif inB r1.1.2.1 r1.1.1 then (some ((r1.1.2.1, (List.getD r1.2.2.1 (0 + Int.toNat r1.1.2.1) dN, true)))) else (none)))))
theorem t_NoseI (a b c : Fl .f32) (n : Int) (m : Fl .f32) (l : LS) : (fnT Γ_NoseI 10 34 [lawD, F32, L32] [I64, F32, .bool] ((a, b, c, n), m, l)).den = d_NoseI a b c n m l := by kernel_rfl
theorem p_NoseI (a b c : Fl .f32) (n : Int) (m : Fl .f32) (l : LS) (r : (Int × ((Fl .f32) × Bool))) (h : noseG ((a, b, c, n), m, l) = some r) : d_NoseI a b c n m l = some r := by
  refine Eq.trans ?_ h
  unfold d_NoseI noseG noseF
  have q : startG ((a, b, c, n), m, l) = some (startF (a, b, c, n) m l) := rfl
  simp only [sub_all, q, Option.bind_some]
  have hl := start_len (a, b, c, n) m l
  generalize startF (a, b, c, n) m l = z at hl ⊢
  obtain ⟨g, ok⟩ := z
  cases ok with
  | false => rw [if_neg (fun k => by cases k.1)]; rfl
  | true =>
    by_cases h0 : 0 < g.length
    · have e0 : ((g.length : Int) == 0) = false := by simp; intro hc; rw [hc] at h0; simp at h0
      have hl' : g.length ≤ 128 := hl
      simp only [Bool.not_true, cond_false, e0]
      have key := iter_for (B := B_NoseI_1) (fun i => ((g.length, (((bestN g i : Nat) : Int), (g.length, ((g.length : Int), ((i : Int), ()))))), (l, (g, ())))) 0 g.length ((g.length, (((bestN g g.length : Nat) : Int), ())), (l, (g, ()))) (Nat.zero_le _) (by omega) (fun i _ hi => by
        unfold B_NoseI_1
        simp only [ltT hi, inB_of hi, inB_of (bestN_lt g h0 i (by omega)), inc64 hi (show g.length < 2 ^ 62 by omega), cond_true, Int.toNat_natCast, Nat.zero_add, bestN]
        by_cases e : flt (g.getD i dN) (g.getD (bestN g i) dN) = true
        · rw [if_pos e, e]; rfl
        · rw [if_neg e, Bool.eq_false_iff.2 e]; rfl) (by
        unfold B_NoseI_1
        simp only [ltF, cond_false])
      refine (congrArg (fun z => Option.bind z _) (show iter B_NoseI_1 bigN _ = _ from key)).trans ?_
      rw [if_pos ⟨trivial, h0⟩]
      simp only [Option.bind_some, inB_of (bestN_lt g h0 g.length (Nat.le_refl _)), cond_true, Int.toNat_natCast, Nat.zero_add]
    · have e0 : g = [] := List.eq_nil_of_length_eq_zero (by omega)
      subst e0
      rw [if_neg (fun k => h0 k.2)]; rfl
theorem s_NoseI : FTold Try.prog 34 noseS := walkedF (fs := fs) (ss := ss_NoseI) (loop := loops_NoseI) tysOk mixed fnsOk ssOk_NoseI 10 34 [lawD, F32, L32] [I64, F32, .bool] rfl _ fun ((a, b, c, n), m, l) r h => (t_NoseI a b c n m l).trans (p_NoseI a b c n m l r h)
def loops_lawNose (_ _ _ : Nat) : Option LSpec := none
noncomputable def ss_lawNose : List (Nat × FSpec) := [(30, lawCS), (31, copyS), (33, noseS), (34, noseS), (26, selfLS), (35, selfFS)]
theorem ssOk_lawNose : FTolds Try.prog ss_lawNose := ⟨s_toLaw, s_toL, s_NoseS, s_NoseI, s_eqL, s_sameFloat, trivial⟩
noncomputable def Γ_lawNose : Ctx := ctxOf Try.prog tys fs ss_lawNose loops_lawNose
noncomputable def d_lawNose (a b c : Fl .f32) (n : Int) (m : Fl .f32) (l : LS) : Option (Bool) := bif decide (((List.length l : Nat) : Int) > 1048576) then (some (true)) else (Option.bind (lawCG (a, b, c, n)) fun (r0 : ((Fl .f32) × ((Fl .f32) × ((Fl .f32) × Int)))) => (Option.bind (copyG (sub l 0 (List.length l))) fun (r1 : (List (Fl .f32))) => (Option.bind (noseG ((r0.1, r0.2.1, r0.2.2.1, r0.2.2.2), m, sub r1 0 (List.length r1))) fun (r2 : (Int × ((Fl .f32) × Bool))) => (Option.bind (copyG (sub l 0 (List.length l))) fun (r3 : (List (Fl .f32))) => (Option.bind (lawCG (a, b, c, n)) fun (r4 : ((Fl .f32) × ((Fl .f32) × ((Fl .f32) × Int)))) => (Option.bind (noseG ((r4.1, r4.2.1, r4.2.2.1, r4.2.2.2), m, sub r3 0 (List.length r3))) fun (r5 : (Int × ((Fl .f32) × Bool))) => (bif r5.1 != r2.1 then (some (false)) else (Option.bind (selfFG (fwide r5.2.1, fwide r2.2.1)) fun (r6 : Bool) => (bif !r6 then (some (false)) else (bif !r5.2.2 == r2.2.2 then (some (false)) else (Option.bind (copyG (sub l 0 (List.length l))) fun (r7 : (List (Fl .f32))) => (Option.bind (selfLG (sub r3 0 (List.length r3), sub r7 0 (List.length r7))) fun (r8 : Bool) => (bif !r8 then (some (false)) else (some (true)))))))))))))))
theorem t_lawNose (a b c : Fl .f32) (n : Int) (m : Fl .f32) (l : LS) : (fnT Γ_lawNose 10 7 [lawD, F32, L32] [.bool] ((a, b, c, n), m, l)).den = d_lawNose a b c n m l := by kernel_rfl
theorem p_lawNose (a b c : Fl .f32) (n : Int) (m : Fl .f32) (l : LS) (r : Bool) (h : yesG ((a, b, c, n), m, l) = some r) : d_lawNose a b c n m l = some r := by
  cases h
  unfold d_lawNose
  by_cases hl : (l.length : Int) > 1048576
  · rw [decide_eq_true hl]; rfl
  · obtain ⟨⟨g, u, ok⟩, hg⟩ : ∃ z, noseG ((a, b, c, n), m, l) = some z := ⟨_, rfl⟩
    have c1 : copyG l = some l := if_pos (by omega)
    have s2 : selfLG (l, l) = some true := if_pos ⟨rfl, by show l.length < 2 ^ 62; omega⟩
    have q0 : lawCG (a, b, c, n) = some (a, b, c, n) := rfl
    have p5 : ∀ z, selfFG (z, z) = some true := fun z => if_pos rfl
    rw [decide_eq_false hl]
    simp only [cond_false, q0, c1, hg, Option.bind_some, sub_all, p5, s2, Bool.not_true, eq_not_self, eq_bne]
theorem s_lawNose : FTold Try.prog 7 yesS := walkedF (fs := fs) (ss := ss_lawNose) (loop := loops_lawNose) tysOk mixed fnsOk ssOk_lawNose 10 7 [lawD, F32, L32] [.bool] rfl _ fun ((a, b, c, n), m, l) r h => (t_lawNose a b c n m l).trans (p_lawNose a b c n m l r h)
open Go.RowKit Go.ChangeShapes Go.WideShapes Go.ChangeAt
set_option maxRecDepth 100000 in
theorem lifted_lawNose (os : Os) (started : os.Started) (H : Type) (enc : TypeId × Value → H) :
    ReturnsInHanded {} Try.checked os 7 .any (Rows.fnExactNoseOfSpec.pre6 enc Try.prog Try.f7 Rows.fnExactNoseOfRow.domain false) (Rows.fnExactNoseOfSpec.post enc Try.prog Try.f7 false true false false) := by
  refine returnsInHanded_of_change (C := Try.checked) own started (by kernel_rfl) Try.func7
    (ChangeSpec.witness6 (enc := enc) (C := Try.checked) false ⟨#[], #[.agg #[.float .f32 0, .float .f32 0, .float .f32 0, .int .i64 0], .float .f32 0, .slice none 0 0], []⟩ 8 (by kernel_rfl) (by kernel_rfl) (by kernel_rfl) (by kernel_rfl)) ?_
  intro W base args ds gs before hval hW _ _
  exact law_post (P := Try.prog) (fn := Try.f7) (s := Rows.fnExactNoseOfSpec) laidOut s_lawNose.out Try.func7 rfl (by kernel_rfl) (by kernel_rfl) (by kernel_rfl) rfl Try.underlying4 rfl (fun ds h => by
    match ds, h with
    | [d0, d1, d2], _ => exact ⟨rfl, rfl, rfl⟩) (fun _ _ => rfl) W base args ds gs before hval hW

theorem over7 : Rows.FnExactNoseOfSaid :=
  OpenClaim.holds_of_wide 7 Try.f7 rfl rfl rfl rfl rfl rfl rfl ⟨rfl, rfl, rfl, rfl, rfl⟩ rfl rfl rfl rfl rfl (by kernel_rfl) Try.func7 (by kernel_rfl)
    (of_decide_eq_true (by kernel_rfl)) (by unfold Func.isWrapper; first | (rw [if_pos (by decide +kernel)]; kernel_rfl) | (rw [if_neg (by decide +kernel)]; exact ⟨rfl, rfl⟩))
    (fun os started H enc _ => lifted_lawNose os started H enc)
end Go.Proofs.Ytdlcebiglolfjaa
