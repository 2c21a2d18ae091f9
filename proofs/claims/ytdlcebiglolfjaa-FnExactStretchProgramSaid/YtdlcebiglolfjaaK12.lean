/- The program's StretchProgram answers as the reference's does, at all arguments. No condition. -/
import Derived.Test.YtdlcebiglolfjaaK3
namespace Go.Proofs.Ytdlcebiglolfjaa
open Go.Ab
theorem sub_nil {α : Type} (l : List α) : sub ([] : List α) 0 0 ++ l = l := rfl
def cloneG (l : LS) : Option LS := if 0 < l.length ∧ l.length ≤ 2 ^ 30 then some l else none
def cloneS : FSpec := ⟨[L32], [L32], cloneG⟩
theorem maxA_all {n : Nat} [inst : Decidable (0 + n ≤ maxA)] (h : n ≤ 2 ^ 30) : @decide (0 + n ≤ maxA) inst = true := by
  have : maxA = 2 ^ 36 := rfl
  simp; omega
def loops_clone (_ _ _ : Nat) : Option LSpec := none
noncomputable def ss_clone : List (Nat × FSpec) := []
theorem ssOk_clone : FTolds Try.prog ss_clone := trivial
noncomputable def Γ_clone : Ctx := ctxOf Try.prog tys fs ss_clone loops_clone
noncomputable def d_clone (l : LS) : Option ((List (Fl .f32))) := bif decide (0 < List.length l) then (bif decide (0 + (sub l 0 (List.length l)).length ≤ maxA) then (some (sub (sub [] 0 0 ++ sub l 0 (List.length l)) 0 (sub [] 0 0 ++ sub l 0 (List.length l)).length)) else (none)) else (none)
theorem t_clone (l : LS) : (fnT Γ_clone 10 66 [L32] [L32] l).den = d_clone l := by kernel_rfl
theorem p_clone (l : LS) (r : (List (Fl .f32))) (h : cloneG l = some r) : d_clone l = some r := by
  obtain ⟨⟨h1, h2⟩, rfl⟩ := if_some (show (if 0 < l.length ∧ l.length ≤ 2 ^ 30 then some l else none) = some r from h)
  unfold d_clone
  simp only [sub_all, sub_nil, decide_eq_true h1, maxA_all h2, cond_true]
theorem s_clone : FTold Try.prog 66 cloneS := walkedF (fs := fs) (ss := ss_clone) (loop := loops_clone) tysOk mixed fnsOk ssOk_clone 10 66 [L32] [L32] rfl _ fun l r h => (t_clone l).trans (p_clone l r h)
def strL (a : LS) (t : Fl .f32) : LS := mapR (fun i => fmul (a.getD i dN) t) a.length
open Classical in
noncomputable def strF (a b : LS) (t : Fl .f32) : Pr × Bool := if vp a b = true ∧ vp (strL a t) b = true then ((strL a t, b), true) else (([], []), false)
noncomputable def strG (x : Pr × Fl .f32) : Option (Pr × Bool) := if x.1.2.length < 2 ^ 62 then some (strF x.1.1 x.1.2 x.2) else none
noncomputable def strS : FSpec := ⟨[PD, F32], [PD, .bool], strG⟩
theorem strL_len (a : LS) (t : Fl .f32) : (strL a t).length = a.length := mapR_len _ _
theorem sub_strL (a : LS) (t : Fl .f32) : sub (strL a t) 0 a.length = strL a t := by have := sub_all (strL a t); rw [strL_len] at this; exact this
theorem sub_mapR' {α : Type} (f : Nat → α) (n : Nat) : sub (mapR f n) 0 n = mapR f n := by have := sub_all (mapR f n); rw [mapR_len] at this; exact this
def L_StrS_1 : LSpec := ⟨[1, 2, 4, 6, 18, 19], ⟨Shs.at 39 [(1, (.flt FloatKind.f32)), (2, (.ptr 2146435392 0 0)), (4, (.ptr 2146435393 0 0)), (6, (.ptr 2146435394 0 0)), (18, (.int IntKind.i64)), (19, (.int IntKind.i64))], [(2, (.arr false (EK.flt FloatKind.f32))), (3, (.arr false (EK.flt FloatKind.f32))), (2146435392, (.vals true (.cons (.slc 2) (.cons (.slc 3) .nil)))), (2146435393, (.vals true (.cons (.slc 2146435395) (.cons (.slc 2146435396) .nil)))), (2146435394, (.vals true (.cons (.slc 2146435397) (.cons (.slc 2146435398) .nil)))), (2146435395, (.arr true (EK.flt FloatKind.f32))), (2146435396, (.arr true (EK.flt FloatKind.f32))), (2146435397, (.arr true (EK.flt FloatKind.f32))), (2146435398, (.arr true (EK.flt FloatKind.f32)))]⟩, [⟨.ext 0, [4, 6], ⟨Shs.at 39 [(4, (.ptr 2146435392 0 0)), (6, (.ptr 2146435393 0 0))], [(2, (.arr false (EK.flt FloatKind.f32))), (3, (.arr false (EK.flt FloatKind.f32))), (2146435392, (.vals true (.cons (.slc 2146435394) (.cons (.slc 2146435395) .nil)))), (2146435393, (.vals true (.cons (.slc 2146435396) (.cons (.slc 2146435397) .nil)))), (2146435394, (.arr true (EK.flt FloatKind.f32))), (2146435395, (.arr true (EK.flt FloatKind.f32))), (2146435396, (.arr true (EK.flt FloatKind.f32))), (2146435397, (.arr true (EK.flt FloatKind.f32)))]⟩⟩], fun _ => bigN⟩
def loops_StrS (f k n : Nat) : Option LSpec := bif (Nat.beq f 16 && Nat.beq k 5 && Nat.beq n 1) then some L_StrS_1 else none
abbrev S_StrS_1 : Type := (((Fl .f32) × (Int × (Int × Unit))) × ((List (Fl .f32)) × ((List (Fl .f32)) × ((Nat × (Nat × Unit)) × ((Nat × (Nat × Unit)) × ((Nat × (Nat × Unit)) × ((List (Fl .f32)) × ((List (Fl .f32)) × ((List (Fl .f32)) × ((List (Fl .f32)) × Unit))))))))))
abbrev R_StrS_1 : Type := (Unit × ((List (Fl .f32)) × ((List (Fl .f32)) × ((Nat × (Nat × Unit)) × ((Nat × (Nat × Unit)) × ((List (Fl .f32)) × ((List (Fl .f32)) × ((List (Fl .f32)) × ((List (Fl .f32)) × Unit)))))))))
noncomputable def B_StrS_1 (y : S_StrS_1) : Option (S_StrS_1 ⊕ R_StrS_1) := bif decide (y.1.2.2.1 < y.1.2.1) then (bif inB y.1.2.2.1 y.2.2.2.1.1 then (bif decide (y.2.2.2.2.2.1.1 + 1 ≤ maxA) then (some (Sum.inl (((y.1.1, (y.1.2.1, (IntKind.i64.wrap (y.1.2.2.1 + 1), ()))), (y.2.1, (y.2.2.1, ((y.2.2.2.1.1, (y.2.2.2.1.2.1, ())), ((y.2.2.2.2.1.1, (y.2.2.2.2.1.2.1, ())), (((sub y.2.2.2.2.2.2.2.2.1 0 y.2.2.2.2.2.1.1 ++ [fmul (List.getD y.2.1 (0 + Int.toNat y.1.2.2.1) dN) y.1.1]).length, (y.2.2.2.2.2.1.2.1, ())), (y.2.2.2.2.2.2.1, (y.2.2.2.2.2.2.2.1, (sub y.2.2.2.2.2.2.2.2.1 0 y.2.2.2.2.2.1.1 ++ [fmul (List.getD y.2.1 (0 + Int.toNat y.1.2.2.1) dN) y.1.1], (y.2.2.2.2.2.2.2.2.2.1, ()))))))))))))) else (none)) else (none)) else (some (Sum.inr (((), (y.2.1, (y.2.2.1, ((y.2.2.2.2.1.1, (y.2.2.2.2.1.2.1, ())), ((y.2.2.2.2.2.1.1, (y.2.2.2.2.2.1.2.1, ())), (y.2.2.2.2.2.2.1, (y.2.2.2.2.2.2.2.1, (y.2.2.2.2.2.2.2.2.1, (y.2.2.2.2.2.2.2.2.2.1, ()))))))))))))
noncomputable def ss_StrS : List (Nat × FSpec) := [(63, vpPS)]
theorem ssOk_StrS : FTolds Try.prog ss_StrS := ⟨s_validS, trivial⟩
noncomputable def Γ_StrS : Ctx := ctxOf Try.prog tys fs ss_StrS loops_StrS
noncomputable def d_StrS (a b : LS) (t : Fl .f32) : Option ((((List (Fl .f32)) × (List (Fl .f32))) × Bool)) := Option.bind (vpPG (sub a 0 (List.length a), sub b 0 (List.length b))) fun (r0 : Bool) => (bif !r0 then (some ((([], []), false))) else (bif decide (0 + (sub b 0 (List.length b)).length ≤ maxA) then (Option.bind (iter B_StrS_1 bigN (((t, (((List.length a : Nat) : Int), (0, ()))), (a, (b, ((List.length a, (List.length b, ())), ((0, (0, ())), ((0, ((sub [] 0 0 ++ sub b 0 (List.length b)).length, ())), ([], ([], ([], (sub [] 0 0 ++ sub b 0 (List.length b), ())))))))))))) fun (r1 : (Unit × ((List (Fl .f32)) × ((List (Fl .f32)) × ((Nat × (Nat × Unit)) × ((Nat × (Nat × Unit)) × ((List (Fl .f32)) × ((List (Fl .f32)) × ((List (Fl .f32)) × ((List (Fl .f32)) × Unit)))))))))) => (Option.bind (vpPG (sub r1.2.2.2.2.2.2.2.1 0 r1.2.2.2.2.1.1, sub r1.2.2.2.2.2.2.2.2.1 0 r1.2.2.2.2.1.2.1)) fun (r2 : Bool) => (bif !r2 then (some ((([], []), false))) else (some (((sub r1.2.2.2.2.2.2.2.1 0 r1.2.2.2.2.1.1, sub r1.2.2.2.2.2.2.2.2.1 0 r1.2.2.2.2.1.2.1), true)))))) else (none)))
theorem t_StrS (a b : LS) (t : Fl .f32) : (fnT Γ_StrS 10 16 [PD, F32] [PD, .bool] ((a, b), t)).den = d_StrS a b t := by kernel_rfl
theorem p_StrS (a b : LS) (t : Fl .f32) (r : (((List (Fl .f32)) × (List (Fl .f32))) × Bool)) (h : strG ((a, b), t) = some r) : d_StrS a b t = some r := by
  obtain ⟨hb, rfl⟩ := if_some (show (if b.length < 2 ^ 62 then some (strF a b t) else none) = some r from h)
  have k0 : vpPG (a, b) = some (vp a b) := if_pos hb
  have kz : vpPG (strL a t, b) = some (vp (strL a t) b) := if_pos hb
  unfold d_StrS strF
  simp only [sub_all, sub_nil, k0, Option.bind_some]
  cases hv : vp a b with
  | false => rfl
  | true =>
    obtain ⟨h1, h2, h3, _⟩ := vp_of hv
    have key := iter_for (B := B_StrS_1) (fun i => ((t, ((a.length : Int), ((i : Int), ()))), (a, (b, ((a.length, (b.length, ())), ((0, (0, ())), ((i, (b.length, ())), ([], ([], (mapR (fun i => fmul (a.getD i dN) t) i, (b, ()))))))))))) 0 a.length ((), (a, (b, ((0, (0, ())), ((a.length, (b.length, ())), ([], ([], (strL a t, (b, ()))))))))) (Nat.zero_le _) (by omega) (fun i _ hi => by
      unfold B_StrS_1
      simp only [ltT hi, inB_of hi, inc64 hi (show a.length < 2 ^ 62 by omega), maxA_one (show i < 2 ^ 30 by omega), cond_true, Int.toNat_natCast, Nat.zero_add, sub_mapR', ← mapR_succ (fun i => fmul (a.getD i dN) t) i, mapR_len]) (by
      unfold B_StrS_1
      simp only [ltF, cond_false]
      rfl)
    simp only [Bool.not_true, cond_false, maxA_all (show b.length ≤ 2 ^ 30 by omega), cond_true]
    refine (congrArg (fun z => Option.bind z _) (show iter B_StrS_1 bigN _ = _ from key)).trans ?_
    simp only [Option.bind_some, sub_strL, sub_all, kz]
    cases vp (strL a t) b <;> rfl
theorem s_StrS : FTold Try.prog 16 strS := walkedF (fs := fs) (ss := ss_StrS) (loop := loops_StrS) tysOk mixed fnsOk ssOk_StrS 10 16 [PD, F32] [PD, .bool] rfl _ fun ((a, b), t) r h => (t_StrS a b t).trans (p_StrS a b t r h)
def L_StrI_1 : LSpec := ⟨[1, 4, 6, 18, 19, 20], ⟨Shs.at 37 [(1, (.flt FloatKind.f32)), (4, (.ptr 2146435392 0 0)), (6, (.ptr 2146435393 0 0)), (18, (.slc 2)), (19, (.int IntKind.i64)), (20, (.int IntKind.i64))], [(2, (.arr false (EK.flt FloatKind.f32))), (3, (.arr false (EK.flt FloatKind.f32))), (2146435392, (.vals true (.cons (.slc 2146435394) (.cons (.slc 2146435395) .nil)))), (2146435393, (.vals true (.cons (.slc 2146435396) (.cons (.slc 2146435397) .nil)))), (2146435394, (.arr true (EK.flt FloatKind.f32))), (2146435395, (.arr true (EK.flt FloatKind.f32))), (2146435396, (.arr true (EK.flt FloatKind.f32))), (2146435397, (.arr true (EK.flt FloatKind.f32)))]⟩, [⟨.ext 0, [4, 6], ⟨Shs.at 37 [(4, (.ptr 2146435392 0 0)), (6, (.ptr 2146435393 0 0))], [(2, (.arr false (EK.flt FloatKind.f32))), (3, (.arr false (EK.flt FloatKind.f32))), (2146435392, (.vals true (.cons (.slc 2146435394) (.cons (.slc 2146435395) .nil)))), (2146435393, (.vals true (.cons (.slc 2146435396) (.cons (.slc 2146435397) .nil)))), (2146435394, (.arr true (EK.flt FloatKind.f32))), (2146435395, (.arr true (EK.flt FloatKind.f32))), (2146435396, (.arr true (EK.flt FloatKind.f32))), (2146435397, (.arr true (EK.flt FloatKind.f32)))]⟩⟩], fun _ => bigN⟩
def loops_StrI (f k n : Nat) : Option LSpec := bif (Nat.beq f 18 && Nat.beq k 5 && Nat.beq n 1) then some L_StrI_1 else none
abbrev S_StrI_1 : Type := (((Fl .f32) × (Nat × (Int × (Int × Unit)))) × ((List (Fl .f32)) × ((List (Fl .f32)) × ((Nat × (Nat × Unit)) × ((Nat × (Nat × Unit)) × ((List (Fl .f32)) × ((List (Fl .f32)) × ((List (Fl .f32)) × ((List (Fl .f32)) × Unit)))))))))
abbrev R_StrI_1 : Type := (Unit × ((List (Fl .f32)) × ((List (Fl .f32)) × ((Nat × (Nat × Unit)) × ((Nat × (Nat × Unit)) × ((List (Fl .f32)) × ((List (Fl .f32)) × ((List (Fl .f32)) × ((List (Fl .f32)) × Unit)))))))))
noncomputable def B_StrI_1 (y : S_StrI_1) : Option (S_StrI_1 ⊕ R_StrI_1) := bif decide (y.1.2.2.2.1 < y.1.2.2.1) then (bif inB y.1.2.2.2.1 y.1.2.1 then (bif decide (y.2.2.2.2.1.1 + 1 ≤ maxA) then (some (Sum.inl (((y.1.1, (y.1.2.1, (y.1.2.2.1, (IntKind.i64.wrap (y.1.2.2.2.1 + 1), ())))), (y.2.1, (y.2.2.1, ((y.2.2.2.1.1, (y.2.2.2.1.2.1, ())), (((sub y.2.2.2.2.2.2.2.1 0 y.2.2.2.2.1.1 ++ [fmul (List.getD y.2.1 (0 + Int.toNat y.1.2.2.2.1) dN) y.1.1]).length, (y.2.2.2.2.1.2.1, ())), (y.2.2.2.2.2.1, (y.2.2.2.2.2.2.1, (sub y.2.2.2.2.2.2.2.1 0 y.2.2.2.2.1.1 ++ [fmul (List.getD y.2.1 (0 + Int.toNat y.1.2.2.2.1) dN) y.1.1], (y.2.2.2.2.2.2.2.2.1, ())))))))))))) else (none)) else (none)) else (some (Sum.inr (((), (y.2.1, (y.2.2.1, ((y.2.2.2.1.1, (y.2.2.2.1.2.1, ())), ((y.2.2.2.2.1.1, (y.2.2.2.2.1.2.1, ())), (y.2.2.2.2.2.1, (y.2.2.2.2.2.2.1, (y.2.2.2.2.2.2.2.1, (y.2.2.2.2.2.2.2.2.1, ()))))))))))))
noncomputable def ss_StrI : List (Nat × FSpec) := [(65, vpS), (66, cloneS)]
theorem ssOk_StrI : FTolds Try.prog ss_StrI := ⟨s_validI, s_clone, trivial⟩
noncomputable def Γ_StrI : Ctx := ctxOf Try.prog tys fs ss_StrI loops_StrI
noncomputable def d_StrI (a b : LS) (t : Fl .f32) : Option ((((List (Fl .f32)) × (List (Fl .f32))) × Bool)) := Option.bind (vpG (sub a 0 (List.length a), sub b 0 (List.length b))) fun (r0 : Bool) => (bif !r0 then (some ((([], []), false))) else (Option.bind (cloneG (sub b 0 (List.length b))) fun (r1 : (List (Fl .f32))) => (Option.bind (iter B_StrI_1 bigN (((t, (List.length a, (((List.length a : Nat) : Int), (0, ())))), (a, (b, ((0, (0, ())), ((0, (List.length r1, ())), ([], ([], ([], (r1, ()))))))))))) fun (r2 : (Unit × ((List (Fl .f32)) × ((List (Fl .f32)) × ((Nat × (Nat × Unit)) × ((Nat × (Nat × Unit)) × ((List (Fl .f32)) × ((List (Fl .f32)) × ((List (Fl .f32)) × ((List (Fl .f32)) × Unit)))))))))) => (Option.bind (vpG (sub r2.2.2.2.2.2.2.2.1 0 r2.2.2.2.2.1.1, sub r2.2.2.2.2.2.2.2.2.1 0 r2.2.2.2.2.1.2.1)) fun (r3 : Bool) => (bif !r3 then (some ((([], []), false))) else (some (((sub r2.2.2.2.2.2.2.2.1 0 r2.2.2.2.2.1.1, sub r2.2.2.2.2.2.2.2.2.1 0 r2.2.2.2.2.1.2.1), true))))))))
theorem t_StrI (a b : LS) (t : Fl .f32) : (fnT Γ_StrI 10 18 [PD, F32] [PD, .bool] ((a, b), t)).den = d_StrI a b t := by kernel_rfl
theorem p_StrI (a b : LS) (t : Fl .f32) (r : (((List (Fl .f32)) × (List (Fl .f32))) × Bool)) (h : strG ((a, b), t) = some r) : d_StrI a b t = some r := by
  obtain ⟨hb, rfl⟩ := if_some (show (if b.length < 2 ^ 62 then some (strF a b t) else none) = some r from h)
  have k0 : vpG (a, b) = some (vp a b) := if_pos hb
  have kz : vpG (strL a t, b) = some (vp (strL a t) b) := if_pos hb
  unfold d_StrI strF
  simp only [sub_all, k0, Option.bind_some]
  cases hv : vp a b with
  | false => rfl
  | true =>
    obtain ⟨h1, h2, h3, _⟩ := vp_of hv
    have kc : cloneG b = some b := if_pos ⟨by omega, by omega⟩
    have key := iter_for (B := B_StrI_1) (fun i => ((t, (a.length, ((a.length : Int), ((i : Int), ())))), (a, (b, ((0, (0, ())), ((i, (b.length, ())), ([], ([], (mapR (fun i => fmul (a.getD i dN) t) i, (b, ())))))))))) 0 a.length ((), (a, (b, ((0, (0, ())), ((a.length, (b.length, ())), ([], ([], (strL a t, (b, ()))))))))) (Nat.zero_le _) (by omega) (fun i _ hi => by
      unfold B_StrI_1
      simp only [ltT hi, inB_of hi, inc64 hi (show a.length < 2 ^ 62 by omega), maxA_one (show i < 2 ^ 30 by omega), cond_true, Int.toNat_natCast, Nat.zero_add, sub_mapR', ← mapR_succ (fun i => fmul (a.getD i dN) t) i, mapR_len]) (by
      unfold B_StrI_1
      simp only [ltF, cond_false]
      rfl)
    simp only [Bool.not_true, cond_false, kc, Option.bind_some]
    refine (congrArg (fun z => Option.bind z _) (show iter B_StrI_1 bigN _ = _ from key)).trans ?_
    simp only [Option.bind_some, sub_strL, sub_all, kz]
    cases vp (strL a t) b <;> rfl
theorem s_StrI : FTold Try.prog 18 strS := walkedF (fs := fs) (ss := ss_StrI) (loop := loops_StrI) tysOk mixed fnsOk ssOk_StrI 10 18 [PD, F32] [PD, .bool] rfl _ fun ((a, b), t) r h => (t_StrI a b t).trans (p_StrI a b t r h)
def held2G (x : Pr × Int) : Option Int := if x.1.1 = marks x.2 x.1.1.length ∧ x.1.2 = marks (x.2 + x.1.1.length) x.1.2.length ∧ x.1.1.length < 2 ^ 40 ∧ x.1.2.length < 2 ^ 40 ∧ 0 ≤ x.2 ∧ x.2 < 2 ^ 50 then some (x.2 + x.1.1.length + x.1.2.length) else none
def held2S : FSpec := ⟨[PD, I64], [I64], held2G⟩
def loops_heldP (_ _ _ : Nat) : Option LSpec := none
noncomputable def ss_heldP : List (Nat × FSpec) := [(28, heldS)]
theorem ssOk_heldP : FTolds Try.prog ss_heldP := ⟨s_heldL, trivial⟩
noncomputable def Γ_heldP : Ctx := ctxOf Try.prog tys fs ss_heldP loops_heldP
noncomputable def d_heldP (a b : LS) (n : Int) : Option (Int) := Option.bind (heldG (sub a 0 (List.length a), n)) fun (r0 : Int) => (bif decide (r0 < 0) then (some (-1)) else (Option.bind (heldG (sub b 0 (List.length b), r0)) fun (r1 : Int) => (bif decide (r1 < 0) then (some (-1)) else (some (r1)))))
theorem t_heldP (a b : LS) (n : Int) : (fnT Γ_heldP 10 21 [PD, I64] [I64] ((a, b), n)).den = d_heldP a b n := by kernel_rfl
theorem p_heldP (a b : LS) (n : Int) (r : Int) (h : held2G ((a, b), n) = some r) : d_heldP a b n = some r := by
  obtain ⟨⟨e1, e2, h1, h2, h3, h4⟩, rfl⟩ := if_some (show (if a = marks n a.length ∧ b = marks (n + a.length) b.length ∧ a.length < 2 ^ 40 ∧ b.length < 2 ^ 40 ∧ 0 ≤ n ∧ n < 2 ^ 50 then some (n + (a.length : Int) + (b.length : Int)) else none) = some r from h)
  have k1 : heldG (a, n) = some (n + (a.length : Int)) := if_pos ⟨e1, h1, h3, by show n < 2 ^ 60; omega⟩
  have k2 : heldG (b, n + (a.length : Int)) = some (n + (a.length : Int) + (b.length : Int)) := if_pos ⟨e2, h2, by show 0 ≤ n + (a.length : Int); omega, by show n + (a.length : Int) < 2 ^ 60; omega⟩
  unfold d_heldP
  simp only [sub_all, k1, k2, Option.bind_some]
  rw [decide_eq_false (show ¬ n + (a.length : Int) < 0 by omega), decide_eq_false (show ¬ n + (a.length : Int) + (b.length : Int) < 0 by omega)]; rfl
theorem s_heldP : FTold Try.prog 21 held2S := walkedF (fs := fs) (ss := ss_heldP) (loop := loops_heldP) tysOk mixed fnsOk ssOk_heldP 10 21 [PD, I64] [I64] rfl _ fun ((a, b), n) r h => (t_heldP a b n).trans (p_heldP a b n r h)
end Go.Proofs.Ytdlcebiglolfjaa
