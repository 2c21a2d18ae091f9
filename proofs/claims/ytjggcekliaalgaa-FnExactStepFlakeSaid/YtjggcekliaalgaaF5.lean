/- Flakes: runs. No condition. -/
import Derived.Test.YtjggcekliaalgaaF4
namespace Go.Proofs.Ytjggcekliaalgaa
open Go.Ab
def iceN (sv : LS) : Nat → LI
  | 0 => []
  | i + 1 => bif fge (sv.getD i dN) (Fl.of .f32 1065353216) then iceN sv i ++ [(i : Int)] else iceN sv i
theorem ice_len (sv : LS) : ∀ i, (iceN sv i).length ≤ i
  | 0 => Nat.le_refl _
  | i + 1 => by
    have := ice_len sv i
    unfold iceN
    cases fge (sv.getD i dN) (Fl.of .f32 1065353216)
    · show (iceN sv i).length ≤ i + 1; omega
    · show (iceN sv i ++ [(i : Int)]).length ≤ i + 1
      rw [List.length_append, List.length_singleton]; omega
def icePG (x : FlT) : Option LI := if x.2.length < 2 ^ 30 then some (iceN x.2 x.2.length) else none
def icePS : FSpec := ⟨[.ptr FlD], [L64], icePG⟩
def iceIG (x : FlT) : Option LI := icePG x
def iceIS : FSpec := ⟨[FlD], [L64], iceIG⟩
def L_iceS_1 : LSpec := ⟨[0, 3, 4], ⟨Shs.at 28 [(0, (.ptr 2 0 0)), (3, (.slc 2146435264)), (4, (.int IntKind.i64))], [(2, (.vals false (.cons (.int IntKind.i64) (.cons (.slc 3) .nil)))), (3, (.arr false (EK.flt FloatKind.f32))), (2146435264, (.arr true (EK.int IntKind.i64)))]⟩, [⟨.ext 0, [3], ⟨Shs.at 28 [(3, (.slc 2146435264))], [(2, (.vals false (.cons (.int IntKind.i64) (.cons (.slc 3) .nil)))), (3, (.arr false (EK.flt FloatKind.f32))), (2146435264, (.arr true (EK.int IntKind.i64)))]⟩⟩], fun _ => bigN⟩
def loops_iceS (f k n : Nat) : Option LSpec := bif (Nat.beq f 119 && Nat.beq k 3 && Nat.beq n 1) then some L_iceS_1 else none
abbrev S_iceS_1 : Type := ((Nat × (Int × Unit)) × ((Int × (Nat × Unit)) × ((List (Fl .f32)) × ((List Int) × Unit))))
abbrev R_iceS_1 : Type := ((Nat × Unit) × ((Int × (Nat × Unit)) × ((List (Fl .f32)) × ((List Int) × Unit))))
noncomputable def B_iceS_1 (y : S_iceS_1) : Option (S_iceS_1 ⊕ R_iceS_1) := bif decide (y.1.2.1 < (y.2.1.2.1 : Int)) then (bif inB y.1.2.1 y.2.1.2.1 then (bif fge (List.getD y.2.2.1 (0 + Int.toNat y.1.2.1) dN) (Fl.of .f32 1065353216) then (bif decide (y.1.1 + 1 ≤ maxA) then (some (Sum.inl ((((sub y.2.2.2.1 0 y.1.1 ++ [y.1.2.1]).length, (IntKind.i64.wrap (y.1.2.1 + 1), ())), ((y.2.1.1, (y.2.1.2.1, ())), (y.2.2.1, (sub y.2.2.2.1 0 y.1.1 ++ [y.1.2.1], ()))))))) else (none)) else (some (Sum.inl (((y.1.1, (IntKind.i64.wrap (y.1.2.1 + 1), ())), ((y.2.1.1, (y.2.1.2.1, ())), (y.2.2.1, (y.2.2.2.1, ())))))))) else (none)) else (some (Sum.inr (((y.1.1, ()), ((y.2.1.1, (y.2.1.2.1, ())), (y.2.2.1, (y.2.2.2.1, ())))))))
noncomputable def ss_iceS : List (Nat × FSpec) := []
theorem ssOk_iceS : FTolds Try.prog ss_iceS := trivial
noncomputable def Γ_iceS : Ctx := ctxOf Try.prog tys fs ss_iceS loops_iceS
noncomputable def d_iceS (sd : Int) (sv : LS) : Option ((List Int)) := Option.bind (iter B_iceS_1 bigN (((0, (0, ())), ((sd, (List.length sv, ())), (sv, ([], ())))))) fun (r0 : ((Nat × Unit) × ((Int × (Nat × Unit)) × ((List (Fl .f32)) × ((List Int) × Unit))))) => (some (sub r0.2.2.2.1 0 r0.1.1))
theorem t_iceS (sd : Int) (sv : LS) : (fnT Γ_iceS 10 119 [.ptr FlD] [L64] (sd, sv)).den = d_iceS sd sv := by kernel_rfl
theorem p_iceS (sd : Int) (sv : LS) (r : (List Int)) (h : icePG (sd, sv) = some r) : d_iceS sd sv = some r := by
  obtain ⟨hb, rfl⟩ := if_some (show (if sv.length < 2 ^ 30 then some (iceN sv sv.length) else none) = some r from h)
  unfold d_iceS
  have key := iter_for (B := B_iceS_1) (fun i => (((iceN sv i).length, ((i : Int), ())), ((sd, (sv.length, ())), (sv, (iceN sv i, ()))))) 0 sv.length (((iceN sv sv.length).length, ()), ((sd, (sv.length, ())), (sv, (iceN sv sv.length, ())))) (Nat.zero_le _) (by omega) (fun i _ hi => by
    have il := ice_len sv i
    have st : iceN sv (i + 1) = bif fge (sv.getD i dN) (Fl.of .f32 1065353216) then iceN sv i ++ [(i : Int)] else iceN sv i := rfl
    rw [st]
    unfold B_iceS_1
    simp only [ltT hi, cond_true, inB_of hi, Int.toNat_natCast, Nat.zero_add, inc64 hi (show sv.length < 2 ^ 62 by omega), maxA_one (show (iceN sv i).length < 2 ^ 30 by omega), sub_all]
    cases fge (sv.getD i dN) (Fl.of .f32 1065353216) <;> rfl) (by
    unfold B_iceS_1
    simp only [ltF, cond_false])
  refine (congrArg (fun z => Option.bind z _) (show iter B_iceS_1 bigN _ = _ from key)).trans ?_
  simp only [Option.bind_some, sub_all]
theorem s_iceS : FTold Try.prog 119 icePS := walkedF (fs := fs) (ss := ss_iceS) (loop := loops_iceS) tysOk mixed fnsOk ssOk_iceS 10 119 [.ptr FlD] [L64] rfl _ fun (sd, sv) r h => (t_iceS sd sv).trans (p_iceS sd sv r h)
def L_iceI_1 : LSpec := ⟨[3, 8, 9, 10], ⟨Shs.at 23 [(3, (.slc 2146435264)), (8, (.slc 2)), (9, (.int IntKind.i64)), (10, (.int IntKind.i64))], [(2, (.arr false (EK.flt FloatKind.f32))), (2146435264, (.arr true (EK.int IntKind.i64)))]⟩, [⟨.ext 0, [3], ⟨Shs.at 23 [(3, (.slc 2146435264))], [(2, (.arr false (EK.flt FloatKind.f32))), (2146435264, (.arr true (EK.int IntKind.i64)))]⟩⟩], fun _ => bigN⟩
def loops_iceI (f k n : Nat) : Option LSpec := bif (Nat.beq f 120 && Nat.beq k 3 && Nat.beq n 1) then some L_iceI_1 else none
abbrev S_iceI_1 : Type := ((Nat × (Nat × (Int × (Int × Unit)))) × ((List (Fl .f32)) × ((List Int) × Unit)))
abbrev R_iceI_1 : Type := ((Nat × Unit) × ((List (Fl .f32)) × ((List Int) × Unit)))
noncomputable def B_iceI_1 (y : S_iceI_1) : Option (S_iceI_1 ⊕ R_iceI_1) := bif decide (y.1.2.2.2.1 < y.1.2.2.1) then (bif inB y.1.2.2.2.1 y.1.2.1 then (bif fge (List.getD y.2.1 (0 + Int.toNat y.1.2.2.2.1) dN) (Fl.of .f32 1065353216) then (bif decide (y.1.1 + 1 ≤ maxA) then (some (Sum.inl ((((sub y.2.2.1 0 y.1.1 ++ [y.1.2.2.2.1]).length, (y.1.2.1, (y.1.2.2.1, (IntKind.i64.wrap (y.1.2.2.2.1 + 1), ())))), (y.2.1, (sub y.2.2.1 0 y.1.1 ++ [y.1.2.2.2.1], ())))))) else (none)) else (some (Sum.inl (((y.1.1, (y.1.2.1, (y.1.2.2.1, (IntKind.i64.wrap (y.1.2.2.2.1 + 1), ())))), (y.2.1, (y.2.2.1, ()))))))) else (none)) else (some (Sum.inr (((y.1.1, ()), (y.2.1, (y.2.2.1, ()))))))
noncomputable def ss_iceI : List (Nat × FSpec) := []
theorem ssOk_iceI : FTolds Try.prog ss_iceI := trivial
noncomputable def Γ_iceI : Ctx := ctxOf Try.prog tys fs ss_iceI loops_iceI
noncomputable def d_iceI (sd : Int) (sv : LS) : Option ((List Int)) := Option.bind (iter B_iceI_1 bigN (((0, (List.length sv, (((List.length sv : Nat) : Int), (0, ())))), (sv, ([], ()))))) fun (r0 : ((Nat × Unit) × ((List (Fl .f32)) × ((List Int) × Unit)))) => (some (sub r0.2.2.1 0 r0.1.1))
theorem t_iceI (sd : Int) (sv : LS) : (fnT Γ_iceI 10 120 [FlD] [L64] (sd, sv)).den = d_iceI sd sv := by kernel_rfl
theorem p_iceI (sd : Int) (sv : LS) (r : (List Int)) (h : iceIG (sd, sv) = some r) : d_iceI sd sv = some r := by
  obtain ⟨hb, rfl⟩ := if_some (show (if sv.length < 2 ^ 30 then some (iceN sv sv.length) else none) = some r from h)
  unfold d_iceI
  have key := iter_for (B := B_iceI_1) (fun i => (((iceN sv i).length, (sv.length, ((sv.length : Int), ((i : Int), ())))), (sv, (iceN sv i, ())))) 0 sv.length (((iceN sv sv.length).length, ()), (sv, (iceN sv sv.length, ()))) (Nat.zero_le _) (by omega) (fun i _ hi => by
    have il := ice_len sv i
    have st : iceN sv (i + 1) = bif fge (sv.getD i dN) (Fl.of .f32 1065353216) then iceN sv i ++ [(i : Int)] else iceN sv i := rfl
    rw [st]
    unfold B_iceI_1
    simp only [ltT hi, cond_true, inB_of hi, Int.toNat_natCast, Nat.zero_add, inc64 hi (show sv.length < 2 ^ 62 by omega), maxA_one (show (iceN sv i).length < 2 ^ 30 by omega), sub_all]
    cases fge (sv.getD i dN) (Fl.of .f32 1065353216) <;> rfl) (by
    unfold B_iceI_1
    simp only [ltF, cond_false])
  refine (congrArg (fun z => Option.bind z _) (show iter B_iceI_1 bigN _ = _ from key)).trans ?_
  simp only [Option.bind_some, sub_all]
theorem s_iceI : FTold Try.prog 120 iceIS := walkedF (fs := fs) (ss := ss_iceI) (loop := loops_iceI) tysOk mixed fnsOk ssOk_iceI 10 120 [FlD] [L64] rfl _ fun (sd, sv) r h => (t_iceI sd sv).trans (p_iceI sd sv r h)
theorem maxA_le {n : Nat} [inst : Decidable (n ≤ maxA)] (h : n ≤ 2 ^ 30) : @decide (n ≤ maxA) inst = true := by
  have : maxA = 2 ^ 36 := rfl
  simp; omega
def cloneG (l : LS) : Option LS := if 0 < l.length ∧ l.length ≤ 2 ^ 30 then some l else none
def cloneS : FSpec := ⟨[L32], [L32], cloneG⟩
def loops_clone (_ _ _ : Nat) : Option LSpec := none
noncomputable def ss_clone : List (Nat × FSpec) := []
theorem ssOk_clone : FTolds Try.prog ss_clone := trivial
noncomputable def Γ_clone : Ctx := ctxOf Try.prog tys fs ss_clone loops_clone
noncomputable def d_clone (l : LS) : Option ((List (Fl .f32))) := bif decide (0 < List.length l) then (bif decide ((sub l 0 (List.length l)).length ≤ maxA) then (some (sub (sub l 0 (List.length l)) 0 (sub l 0 (List.length l)).length)) else (none)) else (none)
theorem t_clone (l : LS) : (fnT Γ_clone 10 63 [L32] [L32] l).den = d_clone l := by kernel_rfl
theorem p_clone (l : LS) (r : (List (Fl .f32))) (h : cloneG l = some r) : d_clone l = some r := by
  obtain ⟨⟨h1, h2⟩, rfl⟩ := if_some (show (if 0 < l.length ∧ l.length ≤ 2 ^ 30 then some l else none) = some r from h)
  unfold d_clone
  simp only [sub_all, decide_eq_true h1, maxA_le h2, cond_true]
theorem s_clone : FTold Try.prog 63 cloneS := walkedF (fs := fs) (ss := ss_clone) (loop := loops_clone) tysOk mixed fnsOk ssOk_clone 10 63 [L32] [L32] rfl _ fun l r h => (t_clone l).trans (p_clone l r h)
def cuN (sd : Int) (sv : LS) (a b : Fl .f32) : Nat → LS
  | 0 => sv
  | r + 1 => stpL sd (cuN sd sv a b r) a b (cuN sd sv a b r).length
theorem cuN_len (sd : Int) (sv : LS) (a b : Fl .f32) : ∀ r, (cuN sd sv a b r).length = sv.length
  | 0 => rfl
  | r + 1 => (stpL_len _ _ _ _ _).trans (cuN_len sd sv a b r)
def coL (sd : Int) (sv : LS) (a b : Fl .f32) (r : Nat) : LI := mapR (fun i => ((iceN (cuN sd sv a b (i + 1)) (cuN sd sv a b (i + 1)).length).length : Int)) r
theorem coL_len (sd : Int) (sv : LS) (a b : Fl .f32) (r : Nat) : (coL sd sv a b r).length = r := mapR_len _ _
theorem sub_coL (sd : Int) (sv : LS) (a b : Fl .f32) (r : Nat) : sub (coL sd sv a b r) 0 r = coL sd sv a b r := sub_mapR _ _
theorem coL_succ (sd : Int) (sv : LS) (a b : Fl .f32) (r : Nat) : coL sd sv a b r ++ [((iceN (cuN sd sv a b (r + 1)) (cuN sd sv a b (r + 1)).length).length : Int)] = coL sd sv a b (r + 1) := (mapR_succ _ _).symm
abbrev RuT : Type := FlT × LI × Bool
def runOk (sd : Int) (sv : LS) (a b : Fl .f32) (n : Int) : Prop := vkP (sd, sv) ∧ (fin a = true ∧ fin b = true) ∧ (0 ≤ n ∧ n ≤ 64) ∧ ∀ r, r < n.toNat → vkP (sd, cuN sd sv a b (r + 1))
open Classical in
noncomputable def runF (sd : Int) (sv : LS) (a b : Fl .f32) (n : Int) : RuT := if runOk sd sv a b n then ((sd, cuN sd sv a b n.toNat), coL sd sv a b n.toNat, true) else ((0, []), [], false)
theorem run_no {sd : Int} {sv : LS} {a b : Fl .f32} {n : Int} (h : ¬ runOk sd sv a b n) : runF sd sv a b n = ((0, []), [], false) := if_neg h
theorem run_yes {sd : Int} {sv : LS} {a b : Fl .f32} {n : Int} (h : runOk sd sv a b n) : runF sd sv a b n = ((sd, cuN sd sv a b n.toNat), coL sd sv a b n.toNat, true) := if_pos h
noncomputable def runPG (x : FlT × Fl .f32 × Fl .f32 × Int) : Option RuT := if x.1.2.length < 2 ^ 62 then some (runF x.1.1 x.1.2 x.2.1 x.2.2.1 x.2.2.2) else none
noncomputable def runPS : FSpec := ⟨[FlD, F32, F32, I64], [FlD, L64, .bool], runPG⟩
open Classical in
noncomputable def okR (sd : Int) (sv : LS) (a b : Fl .f32) (r : Nat) : Bool := decide (vkP (sd, cuN sd sv a b (r + 1)))
open Classical in
theorem okR_iff {sd : Int} {sv : LS} {a b : Fl .f32} {r : Nat} : okR sd sv a b r = true ↔ vkP (sd, cuN sd sv a b (r + 1)) := decide_eq_true_iff
theorem vk_cu {sd : Int} {sv : LS} {a b : Fl .f32} {r : Nat} (h0 : vkP (sd, sv)) (hb : ∀ l, 0 ≤ l → l < r → okR sd sv a b l = true) : vkP (sd, cuN sd sv a b r) := by
  cases r with
  | zero => exact h0
  | succ r => exact okR_iff.1 (hb r (Nat.zero_le _) (by omega))
theorem vk_small {sd : Int} {sv : LS} (h : vkP (sd, sv)) : 9 ≤ sv.length ∧ sv.length ≤ 256 := by
  have sq := sq_b h.1.1 h.1.2
  have hl : (sv.length : Int) = sd * sd := h.2.1
  have sq : 9 ≤ sd * sd ∧ sd * sd ≤ 256 := sq
  omega
def L_RunS_1 : LSpec := ⟨[1, 2, 3, 8, 11, 12, 13], ⟨Shs.at 58 [(1, (.flt FloatKind.f32)), (2, (.flt FloatKind.f32)), (3, (.int IntKind.i64)), (8, (.ptr 2146435456 0 0)), (11, (.ptr 2146435457 0 0)), (12, (.slc 2146435458)), (13, (.int IntKind.i64))], [(2, (.arr false (EK.flt FloatKind.f32))), (2146435456, (.vals true (.cons (.int IntKind.i64) (.cons (.slc 2146435459) .nil)))), (2146435457, (.vals true (.cons (.int IntKind.i64) (.cons (.slc 2146435460) .nil)))), (2146435458, (.arr true (EK.int IntKind.i64))), (2146435459, (.arr true (EK.flt FloatKind.f32))), (2146435460, (.arr true (EK.flt FloatKind.f32)))]⟩, [⟨.ret, [8, 9, 10], ⟨Shs.at 58 [(8, (.ptr 2146435456 0 0)), (9, (.slc 2146435457)), (10, .bool)], [(2, (.arr false (EK.flt FloatKind.f32))), (2146435456, (.vals true (.cons (.int IntKind.i64) (.cons (.slc 2146435458) .nil)))), (2146435457, (.arr true (EK.int IntKind.i64))), (2146435458, (.arr true (EK.flt FloatKind.f32)))]⟩⟩, ⟨.ext 0, [8, 11, 12], ⟨Shs.at 58 [(8, (.ptr 2146435456 0 0)), (11, (.ptr 2146435457 0 0)), (12, (.slc 2146435458))], [(2, (.arr false (EK.flt FloatKind.f32))), (2146435456, (.vals true (.cons (.int IntKind.i64) (.cons (.slc 2146435459) .nil)))), (2146435457, (.vals true (.cons (.int IntKind.i64) (.cons (.slc 2146435460) .nil)))), (2146435458, (.arr true (EK.int IntKind.i64))), (2146435459, (.arr true (EK.flt FloatKind.f32))), (2146435460, (.arr true (EK.flt FloatKind.f32)))]⟩⟩], fun _ => bigN⟩
def loops_RunS (f k n : Nat) : Option LSpec := bif (Nat.beq f 46 && Nat.beq k 6 && Nat.beq n 1) then some L_RunS_1 else none
abbrev S_RunS_1 : Type := (((Fl .f32) × ((Fl .f32) × (Int × (Nat × (Int × Unit))))) × ((List (Fl .f32)) × ((Int × (Nat × Unit)) × ((Int × (Nat × Unit)) × ((List Int) × ((List (Fl .f32)) × ((List (Fl .f32)) × Unit)))))))
abbrev R_RunS_1 : Type := (((Nat × (Bool × Unit)) × ((List (Fl .f32)) × ((Int × (Nat × Unit)) × ((List Int) × ((List (Fl .f32)) × Unit))))) ⊕ ((Nat × Unit) × ((List (Fl .f32)) × ((Int × (Nat × Unit)) × ((Int × (Nat × Unit)) × ((List Int) × ((List (Fl .f32)) × ((List (Fl .f32)) × Unit))))))))
noncomputable def B_RunS_1 (y : S_RunS_1) : Option (S_RunS_1 ⊕ R_RunS_1) := bif decide (y.1.2.2.2.2.1 < y.1.2.2.1) then (Option.bind (stepPG ((y.2.2.2.1.1, sub y.2.2.2.2.2.2.1 0 y.2.2.2.1.2.1), y.1.1, y.1.2.1)) fun (r5 : (Int × (List (Fl .f32)))) => (Option.bind (vkPG (r5.1, sub r5.2 0 (List.length r5.2))) fun (r6 : Bool) => (bif !r6 then (some (Sum.inr (Sum.inl (((0, (false, ())), (y.2.1, ((0, (0, ())), ([], ([], ()))))))))) else (Option.bind (icePG (r5.1, sub r5.2 0 (List.length r5.2))) fun (r7 : (List Int)) => (bif decide (y.1.2.2.2.1 + 1 ≤ maxA) then (some (Sum.inl (((y.1.1, (y.1.2.1, (y.1.2.2.1, ((sub y.2.2.2.2.1 0 y.1.2.2.2.1 ++ [((List.length r7 : Nat) : Int)]).length, (IntKind.i64.wrap (y.1.2.2.2.2.1 + 1), ()))))), (y.2.1, ((y.2.2.1.1, (y.2.2.1.2.1, ())), ((r5.1, (List.length r5.2, ())), (sub y.2.2.2.2.1 0 y.1.2.2.2.1 ++ [((List.length r7 : Nat) : Int)], (y.2.2.2.2.2.1, (r5.2, ())))))))))) else (none)))))) else (some (Sum.inr (Sum.inr (((y.1.2.2.2.1, ()), (y.2.1, ((y.2.2.1.1, (y.2.2.1.2.1, ())), ((y.2.2.2.1.1, (y.2.2.2.1.2.1, ())), (y.2.2.2.2.1, (y.2.2.2.2.2.1, (y.2.2.2.2.2.2.1, ())))))))))))
noncomputable def ss_RunS : List (Nat × FSpec) := [(117, vkPS), (102, finS), (77, withinS), (118, stepPS), (119, icePS)]
theorem ssOk_RunS : FTolds Try.prog ss_RunS := ⟨s_VKS, s_l01Finite, s_l00In, s_stepS, s_iceS, trivial⟩
noncomputable def Γ_RunS : Ctx := ctxOf Try.prog tys fs ss_RunS loops_RunS
noncomputable def d_RunS (sd : Int) (sv : LS) (a b : Fl .f32) (n : Int) : Option (((Int × (List (Fl .f32))) × ((List Int) × Bool))) := Option.bind (vkPG (sd, sub sv 0 (List.length sv))) fun (r0 : Bool) => (bif !r0 then (some (((0, []), ([], false)))) else (Option.bind (finG a) fun (r1 : Bool) => (bif !r1 then (some (((0, []), ([], false)))) else (Option.bind (finG b) fun (r2 : Bool) => (bif !r2 then (some (((0, []), ([], false)))) else (Option.bind (withinG (n, 0, 64)) fun (r3 : Bool) => (bif !r3 then (some (((0, []), ([], false)))) else (bif decide ((sub sv 0 (List.length sv)).length ≤ maxA) then (Option.bind (iter B_RunS_1 bigN (((a, (b, (n, (0, (0, ()))))), (sv, ((0, (0, ())), ((sd, ((sub sv 0 (List.length sv)).length, ())), ([], ([], (sub sv 0 (List.length sv), ()))))))))) fun (r4 : (((Nat × (Bool × Unit)) × ((List (Fl .f32)) × ((Int × (Nat × Unit)) × ((List Int) × ((List (Fl .f32)) × Unit))))) ⊕ ((Nat × Unit) × ((List (Fl .f32)) × ((Int × (Nat × Unit)) × ((Int × (Nat × Unit)) × ((List Int) × ((List (Fl .f32)) × ((List (Fl .f32)) × Unit))))))))) => (match r4 with | .inl x8 => (some (((x8.2.2.1.1, sub x8.2.2.2.2.1 0 x8.2.2.1.2.1), (sub x8.2.2.2.1 0 x8.1.1, x8.1.2.1)))) | .inr x8 => (some (((x8.2.2.2.1.1, sub x8.2.2.2.2.2.2.1 0 x8.2.2.2.1.2.1), (sub x8.2.2.2.2.1 0 x8.1.1, true)))))) else (none)))))))))
theorem t_RunS (sd : Int) (sv : LS) (a b : Fl .f32) (n : Int) : (fnT Γ_RunS 10 46 [FlD, F32, F32, I64] [FlD, L64, .bool] ((sd, sv), a, b, n)).den = d_RunS sd sv a b n := by kernel_rfl
theorem loop_RunS {sd : Int} {sv : LS} {a b : Fl .f32} {n : Int} (hv : vkP (sd, sv)) (h0 : 0 ≤ n) (h1 : n ≤ 64) : iter B_RunS_1 bigN ((a, (b, (n, (0, (0, ()))))), (sv, (kzz, ((sd, (sv.length, ())), ([], ([], (sv, ()))))))) = some ((firstOf (fun r => if okR sd sv a b r = true then none else some (.inl ((0, (false, ())), (sv, (kzz, ([], ([], ()))))) : R_RunS_1)) (n.toNat - 0) 0).getD (.inr ((n.toNat, ()), (sv, (kzz, ((sd, (sv.length, ())), (coL sd sv a b n.toNat, ([], (cuN sd sv a b n.toNat, ()))))))))) := by
  have sm := vk_small hv
  exact iter_find2 (B := B_RunS_1) (fun r => ((a, (b, (n, (r, ((r : Int), ()))))), (sv, (kzz, ((sd, (sv.length, ())), (coL sd sv a b r, ([], (cuN sd sv a b r, ())))))))) 0 n.toNat (fun r => if okR sd sv a b r = true then none else some (.inl ((0, (false, ())), (sv, (kzz, ([], ([], ()))))))) (.inr ((n.toNat, ()), (sv, (kzz, ((sd, (sv.length, ())), (coL sd sv a b n.toNat, ([], (cuN sd sv a b n.toNat, ())))))))) (Nat.zero_le _) (by omega) (fun r _ hr hb => by
    have hvr := vk_cu (a := a) (b := b) (r := r) hv (fun l l0 l1 => none_of (hb l l0 l1))
    have e1 : decide ((r : Int) < n) = true := decide_eq_true (by omega)
    have cl := cuN_len sd sv a b r
    have cl1 := cuN_len sd sv a b (r + 1)
    have hs : sub (cuN sd sv a b r) 0 sv.length = cuN sd sv a b r := by rw [← cl]; exact sub_all _
    have k1 : stepPG ((sd, cuN sd sv a b r), a, b) = some (sd, cuN sd sv a b (r + 1)) := if_pos (vk_sz hvr)
    obtain ⟨v, k2, i2⟩ := vk_ex (x := (sd, cuN sd sv a b (r + 1))) (by show (cuN sd sv a b (r + 1)).length < 2 ^ 62; omega)
    have k2 : vkPG (sd, cuN sd sv a b (r + 1)) = some v := k2
    have k3 : icePG (sd, cuN sd sv a b (r + 1)) = some (iceN (cuN sd sv a b (r + 1)) (cuN sd sv a b (r + 1)).length) := if_pos (by show (cuN sd sv a b (r + 1)).length < 2 ^ 30; omega)
    have hov : okR sd sv a b r = v := Bool.eq_iff_iff.2 (okR_iff.trans i2.symm)
    have cs := coL_succ sd sv a b r
    unfold B_RunS_1
    simp only [e1, cond_true, hs, k1, Option.bind_some, sub_all, k2, hov]
    cases v with
    | false => rfl
    | true =>
      simp only [Bool.not_true, cond_false, k3, Option.bind_some, maxA_one (show r < 2 ^ 30 by omega), cond_true, sub_coL, cs, coL_len, wrap64 (n := (r : Int) + 1) (by omega) (by omega)]
      rw [cl1]
      rfl) (fun _ => by
    have e1 : decide ((n.toNat : Int) < n) = false := decide_eq_false (by omega)
    unfold B_RunS_1
    simp only [e1, cond_false])
theorem p_RunS (sd : Int) (sv : LS) (a b : Fl .f32) (n : Int) (r : ((Int × (List (Fl .f32))) × ((List Int) × Bool))) (h : runPG ((sd, sv), a, b, n) = some r) : d_RunS sd sv a b n = some r := by
  obtain ⟨hb, rfl⟩ := if_some (show (if sv.length < 2 ^ 62 then some (runF sd sv a b n) else none) = some r from h)
  obtain ⟨v1, e1, i1⟩ := vk_ex (x := (sd, sv)) hb
  have e1 : vkPG (sd, sv) = some v1 := e1
  unfold d_RunS finG withinG
  simp only [sub_all, e1, Option.bind_some]
  cases v1 with
  | false => rw [run_no fun z => by have := i1.2 z.1; cases this]; rfl
  | true =>
  have hv := i1.1 rfl
  cases fa : fin a with
  | false => rw [run_no fun z => by have := z.2.1.1; rw [fa] at this; cases this]; rfl
  | true =>
  cases fb : fin b with
  | false => rw [run_no fun z => by have := z.2.1.2; rw [fb] at this; cases this]; rfl
  | true =>
  by_cases hn : 0 ≤ n ∧ n ≤ 64
  case neg => rw [run_no fun z => hn z.2.2.1, show (decide (0 ≤ n) && decide (n ≤ 64)) = false from Bool.eq_false_iff.2 fun w => hn (and2.1 w)]; rfl
  have sm := vk_small hv
  rw [and2.2 hn]
  simp only [Bool.not_true, cond_false, maxA_le (show sv.length ≤ 2 ^ 30 by omega), cond_true]
  refine (congrArg (fun z => Option.bind z _) (show iter B_RunS_1 bigN _ = _ from loop_RunS (a := a) (b := b) hv hn.1 hn.2)).trans ?_
  rcases firstOf_const (fun r => okR sd sv a b r) (.inl ((0, (false, ())), (sv, (kzz, ([], ([], ()))))) : R_RunS_1) (n.toNat - 0) 0 with ⟨q, hall⟩ | ⟨q, j, _, hj, hbad⟩
  · rw [q, run_yes ⟨hv, ⟨fa, fb⟩, hn, fun r hr => okR_iff.1 (hall r (Nat.zero_le _) (by omega))⟩]
    have hs : sub (cuN sd sv a b n.toNat) 0 sv.length = cuN sd sv a b n.toNat := by rw [← cuN_len sd sv a b n.toNat]; exact sub_all _
    simp only [Option.getD_none, Option.bind_some, hs, sub_coL]
  · rw [q, run_no fun z => by have := okR_iff.2 (z.2.2.2 j (by omega)); rw [hbad] at this; cases this]
    rfl
theorem s_RunS : FTold Try.prog 46 runPS := walkedF (fs := fs) (ss := ss_RunS) (loop := loops_RunS) tysOk mixed fnsOk ssOk_RunS 10 46 [FlD, F32, F32, I64] [FlD, L64, .bool] rfl _ fun ((sd, sv), a, b, n) r h => (t_RunS sd sv a b n).trans (p_RunS sd sv a b n r h)
def loops_StpS (_ _ _ : Nat) : Option LSpec := none
noncomputable def ss_StpS : List (Nat × FSpec) := [(46, runPS)]
theorem ssOk_StpS : FTolds Try.prog ss_StpS := ⟨s_RunS, trivial⟩
noncomputable def Γ_StpS : Ctx := ctxOf Try.prog tys fs ss_StpS loops_StpS
noncomputable def d_StpS (sd : Int) (sv : LS) (a b : Fl .f32) : Option (((Int × (List (Fl .f32))) × Bool)) := Option.bind (runPG ((sd, sub sv 0 (List.length sv)), a, b, 1)) fun (r0 : ((Int × (List (Fl .f32))) × ((List Int) × Bool))) => (some (((r0.1.1, sub r0.1.2 0 (List.length r0.1.2)), r0.2.2)))
theorem t_StpS (sd : Int) (sv : LS) (a b : Fl .f32) : (fnT Γ_StpS 10 40 [FlD, F32, F32] [FlD, .bool] ((sd, sv), a, b)).den = d_StpS sd sv a b := by kernel_rfl
theorem p_StpS (sd : Int) (sv : LS) (a b : Fl .f32) (r : ((Int × (List (Fl .f32))) × Bool)) (h : stpIG ((sd, sv), a, b) = some r) : d_StpS sd sv a b = some r := by
  obtain ⟨hb, rfl⟩ := if_some (show (if sv.length < 2 ^ 62 then some (stpF (sd, sv) a b) else none) = some r from h)
  have k1 : runPG ((sd, sv), a, b, 1) = some (runF sd sv a b 1) := if_pos hb
  unfold d_StpS
  simp only [sub_all, k1, Option.bind_some]
  by_cases hok : runOk sd sv a b 1
  · rw [run_yes hok, stp_yes ⟨hok.1, hok.2.1.1, hok.2.1.2, hok.2.2.2 0 (by decide)⟩]
    rfl
  · rw [run_no hok, stp_no fun z => hok ⟨z.1, ⟨z.2.1, z.2.2.1⟩, ⟨by decide, by decide⟩, fun r hr => by
      have : r = 0 := by have : r < 1 := hr; omega
      subst this
      exact z.2.2.2⟩]
theorem s_StpS : FTold Try.prog 40 stpIS := walkedF (fs := fs) (ss := ss_StpS) (loop := loops_StpS) tysOk mixed fnsOk ssOk_StpS 10 40 [FlD, F32, F32] [FlD, .bool] rfl _ fun ((sd, sv), a, b) r h => (t_StpS sd sv a b).trans (p_StpS sd sv a b r h)
def L_RunI_1 : LSpec := ⟨[1, 2, 4, 8, 11, 35, 36], ⟨Shs.at 58 [(1, (.flt FloatKind.f32)), (2, (.flt FloatKind.f32)), (4, (.ptr 2146435456 0 0)), (8, (.ptr 2146435457 0 0)), (11, (.slc 2146435458)), (35, (.int IntKind.i64)), (36, (.int IntKind.i64))], [(2, (.arr false (EK.flt FloatKind.f32))), (2146435456, (.vals true (.cons (.int IntKind.i64) (.cons (.slc 2146435459) .nil)))), (2146435457, (.vals true (.cons (.int IntKind.i64) (.cons (.slc 2146435460) .nil)))), (2146435458, (.arr true (EK.int IntKind.i64))), (2146435459, (.arr true (EK.flt FloatKind.f32))), (2146435460, (.arr true (EK.flt FloatKind.f32)))]⟩, [⟨.ret, [8, 9, 10], ⟨Shs.at 58 [(8, (.ptr 2146435456 0 0)), (9, (.slc 2146435457)), (10, .bool)], [(2, (.arr false (EK.flt FloatKind.f32))), (2146435456, (.vals true (.cons (.int IntKind.i64) (.cons (.slc 2146435458) .nil)))), (2146435457, (.arr true (EK.int IntKind.i64))), (2146435458, (.arr true (EK.flt FloatKind.f32)))]⟩⟩, ⟨.ext 0, [4, 8, 11], ⟨Shs.at 58 [(4, (.ptr 2146435456 0 0)), (8, (.ptr 2146435457 0 0)), (11, (.slc 2146435458))], [(2, (.arr false (EK.flt FloatKind.f32))), (2146435456, (.vals true (.cons (.int IntKind.i64) (.cons (.slc 2146435459) .nil)))), (2146435457, (.vals true (.cons (.int IntKind.i64) (.cons (.slc 2146435460) .nil)))), (2146435458, (.arr true (EK.int IntKind.i64))), (2146435459, (.arr true (EK.flt FloatKind.f32))), (2146435460, (.arr true (EK.flt FloatKind.f32)))]⟩⟩], fun _ => bigN⟩
def loops_RunI (f k n : Nat) : Option LSpec := bif (Nat.beq f 47 && Nat.beq k 6 && Nat.beq n 1) then some L_RunI_1 else none
abbrev S_RunI_1 : Type := (((Fl .f32) × ((Fl .f32) × (Nat × (Int × (Int × Unit))))) × ((List (Fl .f32)) × ((Int × (Nat × Unit)) × ((Int × (Nat × Unit)) × ((List Int) × ((List (Fl .f32)) × ((List (Fl .f32)) × Unit)))))))
abbrev R_RunI_1 : Type := (((Nat × (Bool × Unit)) × ((List (Fl .f32)) × ((Int × (Nat × Unit)) × ((List Int) × ((List (Fl .f32)) × Unit))))) ⊕ ((Nat × Unit) × ((List (Fl .f32)) × ((Int × (Nat × Unit)) × ((Int × (Nat × Unit)) × ((List Int) × ((List (Fl .f32)) × ((List (Fl .f32)) × Unit))))))))
noncomputable def B_RunI_1 (y : S_RunI_1) : Option (S_RunI_1 ⊕ R_RunI_1) := bif decide (y.1.2.2.2.2.1 < y.1.2.2.2.1) then (Option.bind (stpIG ((y.2.2.1.1, sub y.2.2.2.2.2.1 0 y.2.2.1.2.1), y.1.1, y.1.2.1)) fun (r5 : ((Int × (List (Fl .f32))) × Bool)) => (bif !r5.2 then (some (Sum.inr (Sum.inl (((0, (false, ())), (y.2.1, ((0, (0, ())), ([], ([], ()))))))))) else (Option.bind (iceIG (r5.1.1, sub r5.1.2 0 (List.length r5.1.2))) fun (r6 : (List Int)) => (bif decide (y.1.2.2.1 + 1 ≤ maxA) then (some (Sum.inl (((y.1.1, (y.1.2.1, ((sub y.2.2.2.2.1 0 y.1.2.2.1 ++ [((List.length r6 : Nat) : Int)]).length, (y.1.2.2.2.1, (IntKind.i64.wrap (y.1.2.2.2.2.1 + 1), ()))))), (y.2.1, ((r5.1.1, (List.length r5.1.2, ())), ((y.2.2.2.1.1, (y.2.2.2.1.2.1, ())), (sub y.2.2.2.2.1 0 y.1.2.2.1 ++ [((List.length r6 : Nat) : Int)], (r5.1.2, (y.2.2.2.2.2.2.1, ())))))))))) else (none))))) else (some (Sum.inr (Sum.inr (((y.1.2.2.1, ()), (y.2.1, ((y.2.2.1.1, (y.2.2.1.2.1, ())), ((y.2.2.2.1.1, (y.2.2.2.1.2.1, ())), (y.2.2.2.2.1, (y.2.2.2.2.2.1, (y.2.2.2.2.2.2.1, ())))))))))))
noncomputable def ss_RunI : List (Nat × FSpec) := [(111, vkS), (112, allFinS), (84, withinS), (42, stpIS), (120, iceIS), (63, cloneS)]
theorem ssOk_RunI : FTolds Try.prog ss_RunI := ⟨s_VKI, s_areFinite, s_within, s_StepI, s_iceI, s_clone, trivial⟩
noncomputable def Γ_RunI : Ctx := ctxOf Try.prog tys fs ss_RunI loops_RunI
noncomputable def d_RunI (sd : Int) (sv : LS) (a b : Fl .f32) (n : Int) : Option (((Int × (List (Fl .f32))) × ((List Int) × Bool))) := Option.bind (vkG (sd, sub sv 0 (List.length sv))) fun (r0 : Bool) => (bif !r0 then (some (((0, []), ([], false)))) else (Option.bind (allFinG (sub [a, b] 0 2)) fun (r1 : Bool) => (bif !r1 then (some (((0, []), ([], false)))) else (Option.bind (withinG (n, 0, 64)) fun (r2 : Bool) => (bif !r2 then (some (((0, []), ([], false)))) else (Option.bind (cloneG (sub sv 0 (List.length sv))) fun (r3 : (List (Fl .f32))) => (Option.bind (iter B_RunI_1 bigN (((a, (b, (0, (n, (0, ()))))), (sv, ((sd, (List.length r3, ())), ((0, (0, ())), ([], (r3, ([], ()))))))))) fun (r4 : (((Nat × (Bool × Unit)) × ((List (Fl .f32)) × ((Int × (Nat × Unit)) × ((List Int) × ((List (Fl .f32)) × Unit))))) ⊕ ((Nat × Unit) × ((List (Fl .f32)) × ((Int × (Nat × Unit)) × ((Int × (Nat × Unit)) × ((List Int) × ((List (Fl .f32)) × ((List (Fl .f32)) × Unit))))))))) => (match r4 with | .inl x7 => (some (((x7.2.2.1.1, sub x7.2.2.2.2.1 0 x7.2.2.1.2.1), (sub x7.2.2.2.1 0 x7.1.1, x7.1.2.1)))) | .inr x7 => (some (((x7.2.2.1.1, sub x7.2.2.2.2.2.1 0 x7.2.2.1.2.1), (sub x7.2.2.2.2.1 0 x7.1.1, true))))))))))))
theorem t_RunI (sd : Int) (sv : LS) (a b : Fl .f32) (n : Int) : (fnT Γ_RunI 10 47 [FlD, F32, F32, I64] [FlD, L64, .bool] ((sd, sv), a, b, n)).den = d_RunI sd sv a b n := by kernel_rfl
theorem loop_RunI {sd : Int} {sv : LS} {a b : Fl .f32} {n : Int} (hv : vkP (sd, sv)) (fa : fin a = true) (fb : fin b = true) (h0 : 0 ≤ n) (h1 : n ≤ 64) : iter B_RunI_1 bigN ((a, (b, (0, (n, (0, ()))))), (sv, ((sd, (sv.length, ())), (kzz, ([], (sv, ([], ()))))))) = some ((firstOf (fun r => if okR sd sv a b r = true then none else some (.inl ((0, (false, ())), (sv, (kzz, ([], ([], ()))))) : R_RunI_1)) (n.toNat - 0) 0).getD (.inr ((n.toNat, ()), (sv, ((sd, (sv.length, ())), (kzz, (coL sd sv a b n.toNat, (cuN sd sv a b n.toNat, ([], ()))))))))) := by
  have sm := vk_small hv
  exact iter_find2 (B := B_RunI_1) (fun r => ((a, (b, (r, (n, ((r : Int), ()))))), (sv, ((sd, (sv.length, ())), (kzz, (coL sd sv a b r, (cuN sd sv a b r, ([], ())))))))) 0 n.toNat (fun r => if okR sd sv a b r = true then none else some (.inl ((0, (false, ())), (sv, (kzz, ([], ([], ()))))))) (.inr ((n.toNat, ()), (sv, ((sd, (sv.length, ())), (kzz, (coL sd sv a b n.toNat, (cuN sd sv a b n.toNat, ([], ())))))))) (Nat.zero_le _) (by omega) (fun r _ hr hb => by
    have hvr := vk_cu (a := a) (b := b) (r := r) hv (fun l l0 l1 => none_of (hb l l0 l1))
    have e1 : decide ((r : Int) < n) = true := decide_eq_true (by omega)
    have cl := cuN_len sd sv a b r
    have cl1 := cuN_len sd sv a b (r + 1)
    have hs : sub (cuN sd sv a b r) 0 sv.length = cuN sd sv a b r := by rw [← cl]; exact sub_all _
    have k1 : stpIG ((sd, cuN sd sv a b r), a, b) = some (stpF (sd, cuN sd sv a b r) a b) := if_pos (by show (cuN sd sv a b r).length < 2 ^ 62; omega)
    have k3 : iceIG (sd, cuN sd sv a b (r + 1)) = some (iceN (cuN sd sv a b (r + 1)) (cuN sd sv a b (r + 1)).length) := if_pos (by show (cuN sd sv a b (r + 1)).length < 2 ^ 30; omega)
    have cs := coL_succ sd sv a b r
    unfold B_RunI_1
    simp only [e1, cond_true, hs, k1, Option.bind_some]
    cases hov : okR sd sv a b r with
    | false =>
      rw [stp_no fun z => by have := okR_iff.2 z.2.2.2; rw [hov] at this; cases this]
      rfl
    | true =>
      have ey : stpF (sd, cuN sd sv a b r) a b = ((sd, cuN sd sv a b (r + 1)), true) := stp_yes ⟨hvr, fa, fb, okR_iff.1 hov⟩
      rw [ey]
      simp only [Bool.not_true, cond_false, sub_all, k3, Option.bind_some, maxA_one (show r < 2 ^ 30 by omega), cond_true, sub_coL, cs, coL_len, wrap64 (n := (r : Int) + 1) (by omega) (by omega)]
      rw [cl1]
      rfl) (fun _ => by
    have e1 : decide ((n.toNat : Int) < n) = false := decide_eq_false (by omega)
    unfold B_RunI_1
    simp only [e1, cond_false])
theorem p_RunI (sd : Int) (sv : LS) (a b : Fl .f32) (n : Int) (r : ((Int × (List (Fl .f32))) × ((List Int) × Bool))) (h : runPG ((sd, sv), a, b, n) = some r) : d_RunI sd sv a b n = some r := by
  obtain ⟨hb, rfl⟩ := if_some (show (if sv.length < 2 ^ 62 then some (runF sd sv a b n) else none) = some r from h)
  obtain ⟨v1, e1, i1⟩ := vk_ex (x := (sd, sv)) hb
  have k2 : allFinG [a, b] = some (fin a && fin b) := (if_pos (by show (2 : Nat) < 2 ^ 62; decide)).trans (by simp)
  unfold d_RunI withinG
  simp only [sub_all, e1, Option.bind_some, show sub [a, b] 0 2 = [a, b] from rfl, k2]
  cases v1 with
  | false => rw [run_no fun z => by have := i1.2 z.1; cases this]; rfl
  | true =>
  have hv := i1.1 rfl
  cases hf : (fin a && fin b) with
  | false => rw [run_no fun z => by rw [z.2.1.1, z.2.1.2] at hf; cases hf]; rfl
  | true =>
  rw [Bool.and_eq_true] at hf
  by_cases hn : 0 ≤ n ∧ n ≤ 64
  case neg => rw [run_no fun z => hn z.2.2.1, show (decide (0 ≤ n) && decide (n ≤ 64)) = false from Bool.eq_false_iff.2 fun w => hn (and2.1 w)]; rfl
  have sm := vk_small hv
  have k3 : cloneG sv = some sv := if_pos ⟨by omega, by omega⟩
  rw [and2.2 hn]
  simp only [Bool.not_true, cond_false, k3, Option.bind_some]
  refine (congrArg (fun z => Option.bind z _) (show iter B_RunI_1 bigN _ = _ from loop_RunI (a := a) (b := b) hv hf.1 hf.2 hn.1 hn.2)).trans ?_
  rcases firstOf_const (fun r => okR sd sv a b r) (.inl ((0, (false, ())), (sv, (kzz, ([], ([], ()))))) : R_RunI_1) (n.toNat - 0) 0 with ⟨q, hall⟩ | ⟨q, j, _, hj, hbad⟩
  · rw [q, run_yes ⟨hv, hf, hn, fun r hr => okR_iff.1 (hall r (Nat.zero_le _) (by omega))⟩]
    have hs : sub (cuN sd sv a b n.toNat) 0 sv.length = cuN sd sv a b n.toNat := by rw [← cuN_len sd sv a b n.toNat]; exact sub_all _
    simp only [Option.getD_none, Option.bind_some, hs, sub_coL]
  · rw [q, run_no fun z => by have := okR_iff.2 (z.2.2.2 j (by omega)); rw [hbad] at this; cases this]
    rfl
theorem s_RunI : FTold Try.prog 47 runPS := walkedF (fs := fs) (ss := ss_RunI) (loop := loops_RunI) tysOk mixed fnsOk ssOk_RunI 10 47 [FlD, F32, F32, I64] [FlD, L64, .bool] rfl _ fun ((sd, sv), a, b, n) r h => (t_RunI sd sv a b n).trans (p_RunI sd sv a b n r h)
end Go.Proofs.Ytjggcekliaalgaa
