/- The program's MeltSteps answers as the reference's does, at all arguments. -/
import Derived.Test.YtjggcekliaalgaaH4
namespace Go.Proofs.Ytjggcekliaalgaa
open Go.Ab
def flowsG (x : HT × Int × Int × Int) : Option (HT × Bool) := if x.2.2.2 = -1 ∧ x.1.2.2.length < 2 ^ 62 then some (flowsF x.1.1 x.1.2.1 x.1.2.2 x.2.1 x.2.2.1) else none
def flowsS : FSpec := ⟨[.ptr HD, I64, I64, I64], [HD, .bool], flowsG⟩
def meltG (x : HT × Int × Int) : Option (HT × Bool) := if x.1.2.2.length < 2 ^ 62 then some (flowsF x.1.1 x.1.2.1 x.1.2.2 x.2.1 x.2.2) else none
def meltS : FSpec := ⟨[HD, I64, I64], [HD, .bool], meltG⟩
theorem sub_len {α : Type} {l : List α} {n : Nat} (h : l.length = n) : sub l 0 n = l := by subst h; exact sub_all l
def L_flows_1 : LSpec := ⟨[1, 2, 3, 8, 10], ⟨Shs.at 46 [(1, (.int IntKind.i64)), (2, (.int IntKind.i64)), (3, (.int IntKind.i64)), (8, (.ptr 2146435328 0 0)), (10, (.ptr 2146435329 0 0))], [(2, (.vals false (.cons (.int IntKind.i64) (.cons (.int IntKind.i64) (.cons (.slc 3) .nil))))), (3, (.arr false (EK.int IntKind.i64))), (2146435328, (.vals true (.cons (.int IntKind.i64) (.cons (.int IntKind.i64) (.cons (.slc 2146435330) .nil))))), (2146435329, (.vals true (.cons (.int IntKind.i64) (.cons (.int IntKind.i64) (.cons (.slc 2146435331) .nil))))), (2146435330, (.arr true (EK.int IntKind.i64))), (2146435331, (.arr true (EK.int IntKind.i64)))]⟩, [⟨.ext 0, [8, 10], ⟨Shs.at 46 [(8, (.ptr 2146435328 0 0)), (10, (.ptr 2146435329 0 0))], [(2, (.vals false (.cons (.int IntKind.i64) (.cons (.int IntKind.i64) (.cons (.slc 3) .nil))))), (3, (.arr false (EK.int IntKind.i64))), (2146435328, (.vals true (.cons (.int IntKind.i64) (.cons (.int IntKind.i64) (.cons (.slc 2146435330) .nil))))), (2146435329, (.vals true (.cons (.int IntKind.i64) (.cons (.int IntKind.i64) (.cons (.slc 2146435331) .nil))))), (2146435330, (.arr true (EK.int IntKind.i64))), (2146435331, (.arr true (EK.int IntKind.i64)))]⟩⟩], fun _ => bigN⟩
def loops_flows (f k n : Nat) : Option LSpec := bif (Nat.beq f 70 && Nat.beq k 4 && Nat.beq n 1) then some L_flows_1 else none
abbrev S_flows_1 : Type := ((Int × (Int × (Int × Unit))) × ((Int × (Int × (Nat × Unit))) × ((List Int) × ((Int × (Int × (Nat × Unit))) × ((Int × (Int × (Nat × Unit))) × ((List Int) × ((List Int) × Unit)))))))
abbrev R_flows_1 : Type := (Unit × ((Int × (Int × (Nat × Unit))) × ((List Int) × ((Int × (Int × (Nat × Unit))) × ((Int × (Int × (Nat × Unit))) × ((List Int) × ((List Int) × Unit)))))))
noncomputable def B_flows_1 (y : S_flows_1) : Option (S_flows_1 ⊕ R_flows_1) := bif decide (y.1.2.1 > 0) then (Option.bind (flowG ((y.2.2.2.2.1.1, y.2.2.2.2.1.2.1, sub y.2.2.2.2.2.2.1 0 y.2.2.2.2.1.2.2.1), y.1.1, y.1.2.2.1)) fun (r5 : ((Int × (Int × (List Int))) × Bool)) => (bif !r5.2 then (some (Sum.inr (((), ((y.2.1.1, (y.2.1.2.1, (y.2.1.2.2.1, ()))), (y.2.2.1, ((y.2.2.2.1.1, (y.2.2.2.1.2.1, (y.2.2.2.1.2.2.1, ()))), ((y.2.2.2.2.1.1, (y.2.2.2.2.1.2.1, (y.2.2.2.2.1.2.2.1, ()))), (y.2.2.2.2.2.1, (y.2.2.2.2.2.2.1, ())))))))))) else (some (Sum.inl (((y.1.1, (IntKind.i64.wrap (y.1.2.1 - 1), (y.1.2.2.1, ()))), ((y.2.1.1, (y.2.1.2.1, (y.2.1.2.2.1, ()))), (y.2.2.1, ((y.2.2.2.1.1, (y.2.2.2.1.2.1, (y.2.2.2.1.2.2.1, ()))), ((r5.1.1, (r5.1.2.1, (List.length r5.1.2.2, ()))), (y.2.2.2.2.2.1, (r5.1.2.2, ())))))))))))) else (some (Sum.inr (((), ((y.2.1.1, (y.2.1.2.1, (y.2.1.2.2.1, ()))), (y.2.2.1, ((y.2.2.2.1.1, (y.2.2.2.1.2.1, (y.2.2.2.1.2.2.1, ()))), ((y.2.2.2.2.1.1, (y.2.2.2.2.1.2.1, (y.2.2.2.2.1.2.2.1, ()))), (y.2.2.2.2.2.1, (y.2.2.2.2.2.2.1, ()))))))))))
noncomputable def ss_flows : List (Nat × FSpec) := [(76, vhPS), (136, flowS), (79, ownS), (77, withinS)]
theorem ssOk_flows : FTolds Try.prog ss_flows := ⟨s_VHS, s_flow, s_l05Own, s_l00In, trivial⟩
noncomputable def Γ_flows : Ctx := ctxOf Try.prog tys fs ss_flows loops_flows
noncomputable def d_flows (w g : Int) (l : LI) (n m k : Int) : Option (((Int × (Int × (List Int))) × Bool)) := Option.bind (vhPG (w, g, sub l 0 (List.length l))) fun (r0 : Bool) => (bif !r0 then (some (((0, (0, [])), false))) else (Option.bind (withinG (n, 1, 4)) fun (r1 : Bool) => (bif !r1 then (some (((0, (0, [])), false))) else (Option.bind (withinG (m, 0, 50)) fun (r2 : Bool) => (bif !r2 then (some (((0, (0, [])), false))) else (Option.bind (ownG (w, g, sub l 0 (List.length l))) fun (r3 : (Int × (Int × (List Int)))) => (Option.bind (iter B_flows_1 bigN (((n, (m, (k, ()))), ((w, (g, (List.length l, ()))), (l, ((0, (0, (0, ()))), ((r3.1, (r3.2.1, (List.length r3.2.2, ()))), ([], (r3.2.2, ()))))))))) fun (r4 : (Unit × ((Int × (Int × (Nat × Unit))) × ((List Int) × ((Int × (Int × (Nat × Unit))) × ((Int × (Int × (Nat × Unit))) × ((List Int) × ((List Int) × Unit)))))))) => (Option.bind (vhPG (r4.2.2.2.2.1.1, r4.2.2.2.2.1.2.1, sub r4.2.2.2.2.2.2.1 0 r4.2.2.2.2.1.2.2.1)) fun (r6 : Bool) => (bif !r6 then (some (((0, (0, [])), false))) else (some (((r4.2.2.2.2.1.1, (r4.2.2.2.2.1.2.1, sub r4.2.2.2.2.2.2.1 0 r4.2.2.2.2.1.2.2.1)), true))))))))))))
theorem t_flows (w g : Int) (l : LI) (n m k : Int) : (fnT Γ_flows 10 70 [.ptr HD, I64, I64, I64] [HD, .bool] ((w, g, l), n, m, k)).den = d_flows w g l n m k := by kernel_rfl
abbrev flS (w g : Int) (l : LI) (n m : Int) (r : Nat) : S_flows_1 := (((n, (m - (r : Int), (-1, ()))), ((w, (g, (l.length, ()))), (l, ((0, (0, (0, ()))), ((w, (g, (l.length, ()))), ([], (stepsL w g l n r, ()))))))))
abbrev flR (w g : Int) (l : LI) (n : Int) (r : Nat) : R_flows_1 := (((), ((w, (g, (l.length, ()))), (l, ((0, (0, (0, ()))), ((w, (g, (l.length, ()))), ([], (stepsL w g l n r, ()))))))))
theorem loop_flows {w g : Int} {l : LI} (n m : Int) (h0 : 0 ≤ m) (h1 : m ≤ 50) (hk : okH (w, g, l)) : iter B_flows_1 bigN (flS w g l n m 0) = some (flR w g l n m.toNat) := by
  have key := iter_find' (B := B_flows_1) (fun r => flS w g l n m r) 0 m.toNat (fun r => if stepsL w g l n (r + 1) = stepsL w g l n r then some (flR w g l n r) else none) (flR w g l n m.toNat) (Nat.zero_le _) (by omega) (fun r _ hr => by
    have k1 : flowG ((w, g, stepsL w g l n r), n, -1) = some ((w, g, stepsL w g l n (r + 1)), decide (stepsL w g l n (r + 1) ≠ stepsL w g l n r)) := if_pos ⟨steps_ok n hk r, rfl⟩
    have e1 : decide (m - (r : Int) > 0) = true := decide_eq_true (by omega)
    unfold B_flows_1
    simp only [e1, cond_true, sub_len (steps_len (w := w) (g := g) (l := l) n r), k1, Option.bind_some]
    by_cases e : stepsL w g l n (r + 1) = stepsL w g l n r
    · rw [if_pos e, decide_eq_false (show ¬ stepsL w g l n (r + 1) ≠ stepsL w g l n r from fun h => h e)]; rfl
    · rw [if_neg e, decide_eq_true (show stepsL w g l n (r + 1) ≠ stepsL w g l n r from e), wrap64 (n := m - (r : Int) - 1) (by omega) (by omega), show m - (r : Int) - 1 = m - ((r + 1 : Nat) : Int) by omega]
      simp only [Bool.not_true, cond_false, steps_len]) (by
    have e1 : decide (m - (m.toNat : Int) > 0) = false := decide_eq_false (by omega)
    unfold B_flows_1
    simp only [e1, cond_false])
  refine key.trans ?_
  cases hf : firstOf (fun r => if stepsL w g l n (r + 1) = stepsL w g l n r then some (flR w g l n r) else none) (m.toNat - 0) 0 with
  | none => rfl
  | some z =>
    obtain ⟨j, _, hj, hs⟩ := firstOf_some _ _ _ _ hf
    split at hs
    · rename_i e
      cases hs
      have := steps_fix n e (m.toNat - j)
      rw [show j + (m.toNat - j) = m.toNat by omega] at this
      show some (flR w g l n j) = some (flR w g l n m.toNat)
      unfold flR
      rw [this]
    · cases hs
theorem p_flows (w g : Int) (l : LI) (n m k : Int) (r : ((Int × (Int × (List Int))) × Bool)) (h : flowsG ((w, g, l), n, m, k) = some r) : d_flows w g l n m k = some r := by
  obtain ⟨⟨hk, hb⟩, rfl⟩ := if_some (show (if k = -1 ∧ l.length < 2 ^ 62 then some (flowsF w g l n m) else none) = some r from h)
  subst hk
  have k1 : vhPG (w, g, l) = some (vhB (w, g, l)) := if_pos hb
  unfold d_flows flowsF withinG
  simp only [sub_all, k1, Option.bind_some]
  by_cases c1 : okH (w, g, l)
  · rw [vh_ok.2 c1, decide_eq_true c1, Bool.true_and]
    cases c2 : (decide (1 ≤ n) && decide (n ≤ 4)) with
    | false => rfl
    | true =>
      rw [Bool.true_and]
      cases c3 : (decide (0 ≤ m) && decide (m ≤ 50)) with
      | false => rfl
      | true =>
        rw [Bool.and_eq_true, decide_eq_true_iff, decide_eq_true_iff] at c3
        have wg := wg_b c1.1
        have hl : (l.length : Int) = w * g := c1.2.1
        have wg : 4 ≤ w * g ∧ w * g ≤ 256 := wg
        have k2 : ownG (w, g, l) = some (w, g, l) := if_pos (by show l.length ≤ 2 ^ 30; omega)
        have key := loop_flows n m c3.1 c3.2 c1
        unfold flS stepsL at key
        rw [Int.natCast_zero, Int.sub_zero] at key
        have k3 : vhPG (w, g, stepsL w g l n m.toNat) = some (vhB (w, g, stepsL w g l n m.toNat)) := if_pos (by show (stepsL w g l n m.toNat).length < 2 ^ 62; rw [steps_len]; omega)
        simp only [Bool.not_true, cond_false, cond_true, k2, Option.bind_some]
        refine (congrArg (fun z => Option.bind z _) (show iter B_flows_1 bigN _ = _ from key)).trans ?_
        unfold flR
        simp only [Option.bind_some, sub_len (steps_len (w := w) (g := g) (l := l) n m.toNat), k3, vh_ok.2 (steps_ok n c1 m.toNat), Bool.not_true, cond_false]
  · rw [show vhB (w, g, l) = false from Bool.eq_false_iff.2 fun h => c1 (vh_ok.1 h), decide_eq_false c1]
    rfl
theorem s_flows : FTold Try.prog 70 flowsS := walkedF (fs := fs) (ss := ss_flows) (loop := loops_flows) tysOk mixed fnsOk ssOk_flows 10 70 [.ptr HD, I64, I64, I64] [HD, .bool] rfl _ fun ((w, g, l), n, m, k) r h => (t_flows w g l n m k).trans (p_flows w g l n m k r h)
def loops_MeltS (_ _ _ : Nat) : Option LSpec := none
noncomputable def ss_MeltS : List (Nat × FSpec) := [(70, flowsS)]
theorem ssOk_MeltS : FTolds Try.prog ss_MeltS := ⟨s_flows, trivial⟩
noncomputable def Γ_MeltS : Ctx := ctxOf Try.prog tys fs ss_MeltS loops_MeltS
noncomputable def d_MeltS (w g : Int) (l : LI) (n m : Int) : Option (((Int × (Int × (List Int))) × Bool)) := Option.bind (flowsG ((w, g, sub l 0 (List.length l)), n, m, -1)) fun (r0 : ((Int × (Int × (List Int))) × Bool)) => (some (((r0.1.1, (r0.1.2.1, sub r0.1.2.2 0 (List.length r0.1.2.2))), r0.2)))
theorem t_MeltS (w g : Int) (l : LI) (n m : Int) : (fnT Γ_MeltS 10 19 [HD, I64, I64] [HD, .bool] ((w, g, l), n, m)).den = d_MeltS w g l n m := by kernel_rfl
theorem p_MeltS (w g : Int) (l : LI) (n m : Int) (r : ((Int × (Int × (List Int))) × Bool)) (h : meltG ((w, g, l), n, m) = some r) : d_MeltS w g l n m = some r := by
  obtain ⟨hb, rfl⟩ := if_some (show (if l.length < 2 ^ 62 then some (flowsF w g l n m) else none) = some r from h)
  have k1 : flowsG ((w, g, l), n, m, -1) = some (flowsF w g l n m) := if_pos ⟨rfl, hb⟩
  unfold d_MeltS
  simp only [sub_all, k1, Option.bind_some]
theorem s_MeltS : FTold Try.prog 19 meltS := walkedF (fs := fs) (ss := ss_MeltS) (loop := loops_MeltS) tysOk mixed fnsOk ssOk_MeltS 10 19 [HD, I64, I64] [HD, .bool] rfl _ fun ((w, g, l), n, m) r h => (t_MeltS w g l n m).trans (p_MeltS w g l n m r h)
def L_MeltI_1 : LSpec := ⟨[1, 3, 4, 8, 28, 29], ⟨Shs.at 65 [(1, (.int IntKind.i64)), (3, (.fn (Fn.func 72) .nil .nil)), (4, (.ptr 1113469223232 0 0)), (8, (.ptr 1113469223233 0 0)), (28, (.int IntKind.i64)), (29, (.int IntKind.i64))], [(2, (.arr false (EK.int IntKind.i64))), (1028, (.vals true (.cons (.int IntKind.i64) (.cons (.int IntKind.i64) (.cons (.slc 2) .nil))))), (1031, (.vals true (.cons (.int IntKind.i64) (.cons (.int IntKind.i64) (.cons (.slc 1056644) .nil))))), (1056644, (.arr true (EK.int IntKind.i64))), (1113469223232, (.vals true (.cons (.int IntKind.i64) (.cons (.int IntKind.i64) (.cons (.slc 1113469223234) .nil))))), (1113469223233, (.vals true (.cons (.int IntKind.i64) (.cons (.int IntKind.i64) (.cons (.slc 1113469223235) .nil))))), (1113469223234, (.arr true (EK.int IntKind.i64))), (1113469223235, (.arr true (EK.int IntKind.i64)))]⟩, [⟨.ext 0, [4, 8], ⟨Shs.at 65 [(4, (.ptr 1113469223232 0 0)), (8, (.ptr 1113469223233 0 0))], [(2, (.arr false (EK.int IntKind.i64))), (1028, (.vals true (.cons (.int IntKind.i64) (.cons (.int IntKind.i64) (.cons (.slc 2) .nil))))), (1031, (.vals true (.cons (.int IntKind.i64) (.cons (.int IntKind.i64) (.cons (.slc 1056644) .nil))))), (1056644, (.arr true (EK.int IntKind.i64))), (1113469223232, (.vals true (.cons (.int IntKind.i64) (.cons (.int IntKind.i64) (.cons (.slc 1113469223234) .nil))))), (1113469223233, (.vals true (.cons (.int IntKind.i64) (.cons (.int IntKind.i64) (.cons (.slc 1113469223235) .nil))))), (1113469223234, (.arr true (EK.int IntKind.i64))), (1113469223235, (.arr true (EK.int IntKind.i64)))]⟩⟩], fun _ => bigN⟩
def L_MeltI_2 : LSpec := ⟨[1, 3, 4, 8, 10, 28, 29, 35, 36], ⟨Shs.at 65 [(1, (.int IntKind.i64)), (3, (.fn (Fn.func 72) .nil .nil)), (4, (.ptr 1113469223424 0 0)), (8, (.ptr 1113469223425 0 0)), (10, (.ptr 1113469223426 0 0)), (28, (.int IntKind.i64)), (29, (.int IntKind.i64)), (35, (.int IntKind.i64)), (36, (.int IntKind.i64))], [(2, (.arr false (EK.int IntKind.i64))), (1028, (.vals true (.cons (.int IntKind.i64) (.cons (.int IntKind.i64) (.cons (.slc 2) .nil))))), (1031, (.vals true (.cons (.int IntKind.i64) (.cons (.int IntKind.i64) (.cons (.slc 1056644) .nil))))), (1056644, (.arr true (EK.int IntKind.i64))), (1113469223424, (.vals true (.cons (.int IntKind.i64) (.cons (.int IntKind.i64) (.cons (.slc 1113469223427) .nil))))), (1113469223425, (.vals true (.cons (.int IntKind.i64) (.cons (.int IntKind.i64) (.cons (.slc 1113469223428) .nil))))), (1113469223426, (.vals true (.cons (.int IntKind.i64) (.cons (.int IntKind.i64) (.cons (.slc 1113469223429) .nil))))), (1113469223427, (.arr true (EK.int IntKind.i64))), (1113469223428, (.arr true (EK.int IntKind.i64))), (1113469223429, (.arr true (EK.int IntKind.i64)))]⟩, [⟨.ext 2, [1, 3, 4, 8, 10, 28, 29], ⟨Shs.at 65 [(1, (.int IntKind.i64)), (3, (.fn (Fn.func 72) .nil .nil)), (4, (.ptr 1113469223424 0 0)), (8, (.ptr 1113469223425 0 0)), (10, (.ptr 1113469223426 0 0)), (28, (.int IntKind.i64)), (29, (.int IntKind.i64))], [(2, (.arr false (EK.int IntKind.i64))), (1028, (.vals true (.cons (.int IntKind.i64) (.cons (.int IntKind.i64) (.cons (.slc 2) .nil))))), (1031, (.vals true (.cons (.int IntKind.i64) (.cons (.int IntKind.i64) (.cons (.slc 1056644) .nil))))), (1056644, (.arr true (EK.int IntKind.i64))), (1113469223424, (.vals true (.cons (.int IntKind.i64) (.cons (.int IntKind.i64) (.cons (.slc 1113469223427) .nil))))), (1113469223425, (.vals true (.cons (.int IntKind.i64) (.cons (.int IntKind.i64) (.cons (.slc 1113469223428) .nil))))), (1113469223426, (.vals true (.cons (.int IntKind.i64) (.cons (.int IntKind.i64) (.cons (.slc 1113469223429) .nil))))), (1113469223427, (.arr true (EK.int IntKind.i64))), (1113469223428, (.arr true (EK.int IntKind.i64))), (1113469223429, (.arr true (EK.int IntKind.i64)))]⟩⟩], fun _ => bigN⟩
def loops_MeltI (f k n : Nat) : Option LSpec := bif (Nat.beq f 71 && Nat.beq k 5 && Nat.beq n 1036) then some L_MeltI_1 else bif (Nat.beq f 71 && Nat.beq k 8 && Nat.beq n 1036) then some L_MeltI_2 else none
abbrev S_MeltI_2 : Type := ((Int × ((Unit × Unit) × (Int × (Int × (Int × (Int × Unit)))))) × ((List Int) × ((Int × (Int × (Nat × Unit))) × ((Int × (Int × (Nat × Unit))) × ((List Int) × ((Int × (Int × (Nat × Unit))) × ((Int × (Int × (Nat × Unit))) × ((Int × (Int × (Nat × Unit))) × ((List Int) × ((List Int) × ((List Int) × Unit)))))))))))
abbrev R_MeltI_2 : Type := ((Int × ((Unit × Unit) × (Int × (Int × Unit)))) × ((List Int) × ((Int × (Int × (Nat × Unit))) × ((Int × (Int × (Nat × Unit))) × ((List Int) × ((Int × (Int × (Nat × Unit))) × ((Int × (Int × (Nat × Unit))) × ((Int × (Int × (Nat × Unit))) × ((List Int) × ((List Int) × ((List Int) × Unit)))))))))))
noncomputable def B_MeltI_2 (y : S_MeltI_2) : Option (S_MeltI_2 ⊕ R_MeltI_2) := bif decide (y.1.2.2.2.2.2.1 < y.1.2.2.2.2.1) then (bif y.2.2.2.2.2.1.1 != 0 then (bif y.2.2.2.2.2.1.1 != 0 then (Option.bind (mel1G ((y.2.2.2.2.2.1.1, y.2.2.2.2.2.1.2.1, sub y.2.2.2.2.2.2.2.2.1 0 y.2.2.2.2.2.1.2.2.1), Int.tmod y.1.2.2.2.2.2.1 y.2.2.2.2.2.1.1, IntKind.i64.wrap (Int.tdiv y.1.2.2.2.2.2.1 y.2.2.2.2.2.1.1), y.1.1)) fun (r7 : Int) => (bif inB y.1.2.2.2.2.2.1 y.2.2.2.2.2.2.2.1.2.2.1 then (some (Sum.inl (((y.1.1, (((), ()), (y.1.2.2.1, (y.1.2.2.2.1, (y.1.2.2.2.2.1, (IntKind.i64.wrap (y.1.2.2.2.2.2.1 + 1), ())))))), (y.2.1, ((y.2.2.1.1, (y.2.2.1.2.1, (y.2.2.1.2.2.1, ()))), ((y.2.2.2.1.1, (y.2.2.2.1.2.1, (y.2.2.2.1.2.2.1, ()))), (y.2.2.2.2.1, ((y.2.2.2.2.2.1.1, (y.2.2.2.2.2.1.2.1, (y.2.2.2.2.2.1.2.2.1, ()))), ((y.2.2.2.2.2.2.1.1, (y.2.2.2.2.2.2.1.2.1, (y.2.2.2.2.2.2.1.2.2.1, ()))), ((y.2.2.2.2.2.2.2.1.1, (y.2.2.2.2.2.2.2.1.2.1, (y.2.2.2.2.2.2.2.1.2.2.1, ()))), (y.2.2.2.2.2.2.2.2.1, (y.2.2.2.2.2.2.2.2.2.1, (List.set y.2.2.2.2.2.2.2.2.2.2.1 (0 + Int.toNat y.1.2.2.2.2.2.1) r7, ())))))))))))))) else (none))) else (none)) else (none)) else (some (Sum.inr (((y.1.1, (((), ()), (y.1.2.2.1, (y.1.2.2.2.1, ())))), (y.2.1, ((y.2.2.1.1, (y.2.2.1.2.1, (y.2.2.1.2.2.1, ()))), ((y.2.2.2.1.1, (y.2.2.2.1.2.1, (y.2.2.2.1.2.2.1, ()))), (y.2.2.2.2.1, ((y.2.2.2.2.2.1.1, (y.2.2.2.2.2.1.2.1, (y.2.2.2.2.2.1.2.2.1, ()))), ((y.2.2.2.2.2.2.1.1, (y.2.2.2.2.2.2.1.2.1, (y.2.2.2.2.2.2.1.2.2.1, ()))), ((y.2.2.2.2.2.2.2.1.1, (y.2.2.2.2.2.2.2.1.2.1, (y.2.2.2.2.2.2.2.1.2.2.1, ()))), (y.2.2.2.2.2.2.2.2.1, (y.2.2.2.2.2.2.2.2.2.1, (y.2.2.2.2.2.2.2.2.2.2.1, ()))))))))))))))
abbrev S_MeltI_1 : Type := ((Int × ((Unit × Unit) × (Int × (Int × Unit)))) × ((List Int) × ((Int × (Int × (Nat × Unit))) × ((Int × (Int × (Nat × Unit))) × ((List Int) × ((Int × (Int × (Nat × Unit))) × ((Int × (Int × (Nat × Unit))) × ((List Int) × ((List Int) × Unit)))))))))
abbrev R_MeltI_1 : Type := (Unit × ((List Int) × ((Int × (Int × (Nat × Unit))) × ((Int × (Int × (Nat × Unit))) × ((List Int) × ((Int × (Int × (Nat × Unit))) × ((Int × (Int × (Nat × Unit))) × ((List Int) × ((List Int) × Unit)))))))))
noncomputable def B_MeltI_1 (y : S_MeltI_1) : Option (S_MeltI_1 ⊕ R_MeltI_1) := bif decide (y.1.2.2.2.1 < y.1.2.2.1) then (Option.bind (clonedG (y.2.2.2.2.2.1.1, y.2.2.2.2.2.1.2.1, sub y.2.2.2.2.2.2.2.1 0 y.2.2.2.2.2.1.2.2.1)) fun (r5 : (Int × (Int × (List Int)))) => (Option.bind (iter B_MeltI_2 bigN (((y.1.1, (((), ()), (y.1.2.2.1, (y.1.2.2.2.1, (((List.length r5.2.2 : Nat) : Int), (0, ())))))), (y.2.1, ((y.2.2.1.1, (y.2.2.1.2.1, (y.2.2.1.2.2.1, ()))), ((y.2.2.2.1.1, (y.2.2.2.1.2.1, (y.2.2.2.1.2.2.1, ()))), (y.2.2.2.2.1, ((y.2.2.2.2.2.1.1, (y.2.2.2.2.2.1.2.1, (y.2.2.2.2.2.1.2.2.1, ()))), ((y.2.2.2.2.2.2.1.1, (y.2.2.2.2.2.2.1.2.1, (y.2.2.2.2.2.2.1.2.2.1, ()))), ((r5.1, (r5.2.1, (List.length r5.2.2, ()))), (y.2.2.2.2.2.2.2.1, (y.2.2.2.2.2.2.2.2.1, (r5.2.2, ()))))))))))))) fun (r6 : ((Int × ((Unit × Unit) × (Int × (Int × Unit)))) × ((List Int) × ((Int × (Int × (Nat × Unit))) × ((Int × (Int × (Nat × Unit))) × ((List Int) × ((Int × (Int × (Nat × Unit))) × ((Int × (Int × (Nat × Unit))) × ((Int × (Int × (Nat × Unit))) × ((List Int) × ((List Int) × ((List Int) × Unit)))))))))))) => (Option.bind (eqHG ((r6.2.2.2.2.2.2.2.1.1, r6.2.2.2.2.2.2.2.1.2.1, sub r6.2.2.2.2.2.2.2.2.2.2.1 0 r6.2.2.2.2.2.2.2.1.2.2.1), r6.2.2.2.2.2.1.1, r6.2.2.2.2.2.1.2.1, sub r6.2.2.2.2.2.2.2.2.1 0 r6.2.2.2.2.2.1.2.2.1)) fun (r8 : Bool) => (bif r8 then (some (Sum.inr (((), (r6.2.1, ((r6.2.2.1.1, (r6.2.2.1.2.1, (r6.2.2.1.2.2.1, ()))), ((r6.2.2.2.1.1, (r6.2.2.2.1.2.1, (r6.2.2.2.1.2.2.1, ()))), (r6.2.2.2.2.1, ((r6.2.2.2.2.2.1.1, (r6.2.2.2.2.2.1.2.1, (r6.2.2.2.2.2.1.2.2.1, ()))), ((r6.2.2.2.2.2.2.1.1, (r6.2.2.2.2.2.2.1.2.1, (r6.2.2.2.2.2.2.1.2.2.1, ()))), (r6.2.2.2.2.2.2.2.2.1, (r6.2.2.2.2.2.2.2.2.2.1, ())))))))))))) else (some (Sum.inl (((r6.1.1, (((), ()), (r6.1.2.2.1, (IntKind.i64.wrap (r6.1.2.2.2.1 + 1), ())))), (r6.2.1, ((r6.2.2.1.1, (r6.2.2.1.2.1, (r6.2.2.1.2.2.1, ()))), ((r6.2.2.2.1.1, (r6.2.2.2.1.2.1, (r6.2.2.2.1.2.2.1, ()))), (r6.2.2.2.2.1, ((r6.2.2.2.2.2.2.2.1.1, (r6.2.2.2.2.2.2.2.1.2.1, (r6.2.2.2.2.2.2.2.1.2.2.1, ()))), ((r6.2.2.2.2.2.2.1.1, (r6.2.2.2.2.2.2.1.2.1, (r6.2.2.2.2.2.2.1.2.2.1, ()))), (r6.2.2.2.2.2.2.2.2.2.2.1, (r6.2.2.2.2.2.2.2.2.2.1, ())))))))))))))))) else (some (Sum.inr (((), (y.2.1, ((y.2.2.1.1, (y.2.2.1.2.1, (y.2.2.1.2.2.1, ()))), ((y.2.2.2.1.1, (y.2.2.2.1.2.1, (y.2.2.2.1.2.2.1, ()))), (y.2.2.2.2.1, ((y.2.2.2.2.2.1.1, (y.2.2.2.2.2.1.2.1, (y.2.2.2.2.2.1.2.2.1, ()))), ((y.2.2.2.2.2.2.1.1, (y.2.2.2.2.2.2.1.2.1, (y.2.2.2.2.2.2.1.2.2.1, ()))), (y.2.2.2.2.2.2.2.1, (y.2.2.2.2.2.2.2.2.1, ()))))))))))))
noncomputable def ss_MeltI : List (Nat × FSpec) := [(72, mel1S), (87, clonedS), (84, withinS), (83, vhS), (57, eqHS)]
theorem ssOk_MeltI : FTolds Try.prog ss_MeltI := ⟨s_melt1, s_cloned, s_within, s_VHI, s_SameH, trivial⟩
noncomputable def Γ_MeltI : Ctx := ctxOf Try.prog tys fs ss_MeltI loops_MeltI
noncomputable def d_MeltI (w g : Int) (l : LI) (n m : Int) : Option (((Int × (Int × (List Int))) × Bool)) := Option.bind (vhG (w, g, sub l 0 (List.length l))) fun (r0 : Bool) => (bif !r0 then (some (((0, (0, [])), false))) else (Option.bind (withinG (n, 1, 4)) fun (r1 : Bool) => (bif !r1 then (some (((0, (0, [])), false))) else (Option.bind (withinG (m, 0, 50)) fun (r2 : Bool) => (bif !r2 then (some (((0, (0, [])), false))) else (Option.bind (clonedG (w, g, sub l 0 (List.length l))) fun (r3 : (Int × (Int × (List Int)))) => (Option.bind (iter B_MeltI_1 bigN (((n, (((), ()), (m, (0, ())))), (l, ((w, (g, (List.length l, ()))), ((0, (0, (0, ()))), ([], ((r3.1, (r3.2.1, (List.length r3.2.2, ()))), ((0, (0, (0, ()))), (r3.2.2, ([], ()))))))))))) fun (r4 : (Unit × ((List Int) × ((Int × (Int × (Nat × Unit))) × ((Int × (Int × (Nat × Unit))) × ((List Int) × ((Int × (Int × (Nat × Unit))) × ((Int × (Int × (Nat × Unit))) × ((List Int) × ((List Int) × Unit)))))))))) => (Option.bind (vhG (r4.2.2.2.2.2.1.1, r4.2.2.2.2.2.1.2.1, sub r4.2.2.2.2.2.2.2.1 0 r4.2.2.2.2.2.1.2.2.1)) fun (r9 : Bool) => (bif !r9 then (some (((0, (0, [])), false))) else (some (((r4.2.2.2.2.2.1.1, (r4.2.2.2.2.2.1.2.1, sub r4.2.2.2.2.2.2.2.1 0 r4.2.2.2.2.2.1.2.2.1)), true))))))))))))
theorem t_MeltI (w g : Int) (l : LI) (n m : Int) : (fnT Γ_MeltI 10 21 [HD, I64, I64] [HD, .bool] ((w, g, l), n, m)).den = d_MeltI w g l n m := by kernel_rfl
abbrev mzz : Int × Int × Nat × Unit := (0, (0, (0, ())))
abbrev miS (w g : Int) (l : LI) (n m : Int) (r : Nat) : S_MeltI_1 := ((n, (((), ()), (m, ((r : Int), ())))), (l, ((w, (g, (l.length, ()))), (mzz, ([], ((w, (g, (l.length, ()))), (mzz, (stepsL w g l n r, ([], ())))))))))
abbrev miR (w g : Int) (l : LI) (n : Int) (r : Nat) : R_MeltI_1 := ((), (l, ((w, (g, (l.length, ()))), (mzz, ([], ((w, (g, (l.length, ()))), (mzz, (stepsL w g l n r, ([], ())))))))))
theorem loop_melt2 {w g : Int} {c : LI} (n m r : Int) (hk : okH (w, g, c)) (l : LI) : iter B_MeltI_2 bigN ((n, (((), ()), (m, (r, ((c.length : Int), (0, ())))))), (l, ((w, (g, (l.length, ()))), (mzz, ([], ((w, (g, (c.length, ()))), (mzz, ((w, (g, (c.length, ()))), (c, ([], (c, ()))))))))))) = some ((n, (((), ()), (m, (r, ())))), (l, ((w, (g, (l.length, ()))), (mzz, ([], ((w, (g, (c.length, ()))), (mzz, ((w, (g, (c.length, ()))), (c, ([], (stepL w g c n, ())))))))))) ) := by
  obtain ⟨z, hl, ha⟩ := hk
  have z : szOk w g := z
  have hl : (c.length : Int) = w * g := hl
  have ha : areB 0 1000 c = true := ha
  have wg := wg_b z
  obtain ⟨z1, z2, z3, z4⟩ := z
  have key := iter_for (B := B_MeltI_2) (fun i => ((n, (((), ()), (m, (r, ((c.length : Int), ((i : Int), ())))))), (l, ((w, (g, (l.length, ()))), (mzz, ([], ((w, (g, (c.length, ()))), (mzz, ((w, (g, (c.length, ()))), (c, ([], (newUp (fun i => meltV w g c n ((i : Int) % w) ((i : Int) / w)) c i, ())))))))))))) 0 c.length ((n, (((), ()), (m, (r, ())))), (l, ((w, (g, (l.length, ()))), (mzz, ([], ((w, (g, (c.length, ()))), (mzz, ((w, (g, (c.length, ()))), (c, ([], (stepL w g c n, ())))))))))) ) (Nat.zero_le _) (by omega) (fun i _ hi => by
    have d0 : 0 ≤ (i : Int) / w := Int.ediv_nonneg (by omega) (by omega)
    have d1 : (i : Int) / w ≤ i := Int.ediv_le_self w (by omega)
    have d2 := Int.emod_nonneg (i : Int) (show w ≠ 0 by omega)
    have d3 := Int.emod_lt_of_pos (i : Int) (show 0 < w by omega)
    have k1 : mel1G ((w, g, c), (i : Int) % w, (i : Int) / w, n) = some (meltV w g c n ((i : Int) % w) ((i : Int) / w)) := if_pos ⟨⟨⟨z1, z2, z3, z4⟩, hl, ha⟩, by show -(2 ^ 10) ≤ (i : Int) % w; omega, by show (i : Int) % w ≤ 2 ^ 10; omega, by show -(2 ^ 10) ≤ (i : Int) / w; omega, by show (i : Int) / w ≤ 2 ^ 10; omega⟩
    have e1 : (w != 0) = true := by simp; omega
    unfold B_MeltI_2
    simp only [ltT hi, cond_true, e1, sub_all, tmod_nn (i : Int) w (by omega), tdiv_nn (i : Int) w (by omega), wrap64 (n := (i : Int) / w) (by omega) (by omega), k1, Option.bind_some, inB_of hi, Int.toNat_natCast, Nat.zero_add, inc64 hi (show c.length < 2 ^ 62 by omega), newUp_succ (fun i : Nat => meltV w g c n ((i : Int) % w) ((i : Int) / w)) c hi]) (by
    unfold B_MeltI_2
    simp only [ltF, cond_false, newUp_end]
    rfl)
  simpa only [newUp_zero, Int.natCast_zero] using key
theorem loop_melt {w g : Int} {l : LI} (n m : Int) (h0 : 0 ≤ m) (h1 : m ≤ 50) (hk : okH (w, g, l)) : iter B_MeltI_1 bigN (miS w g l n m 0) = some (miR w g l n m.toNat) := by
  have key := iter_find' (B := B_MeltI_1) (fun r => miS w g l n m r) 0 m.toNat (fun r => if stepsL w g l n (r + 1) = stepsL w g l n r then some (miR w g l n r) else none) (miR w g l n m.toNat) (Nat.zero_le _) (by omega) (fun r _ hr => by
    have ok := steps_ok n hk r
    have hlen := steps_len (w := w) (g := g) (l := l) n r
    have hlen1 := steps_len (w := w) (g := g) (l := l) n (r + 1)
    have wg : 4 ≤ w * g ∧ w * g ≤ 256 := wg_b hk.1
    have hl : (l.length : Int) = w * g := hk.2.1
    have k2 : clonedG (w, g, stepsL w g l n r) = some (w, g, stepsL w g l n r) := if_pos ⟨by show 0 < (stepsL w g l n r).length; omega, by show (stepsL w g l n r).length ≤ 2 ^ 30; omega⟩
    have k3 : eqHG ((w, g, stepsL w g l n (r + 1)), (w, g, stepsL w g l n r)) = some (decide (((w, g, stepsL w g l n (r + 1)) : HT) = (w, g, stepsL w g l n r))) := if_pos (by show (stepsL w g l n (r + 1)).length < 2 ^ 62; omega)
    have e1 : decide ((r : Int) < m) = true := decide_eq_true (by omega)
    have k4 := loop_melt2 n m (r : Int) ok l
    rw [show stepL w g (stepsL w g l n r) n = stepsL w g l n (r + 1) from rfl, hlen] at k4
    unfold B_MeltI_1
    simp only [e1, cond_true, sub_len hlen, k2, Option.bind_some, hlen]
    refine (congrArg (fun z => Option.bind z _) (show iter B_MeltI_2 bigN _ = _ from k4)).trans ?_
    simp only [Option.bind_some, sub_len hlen, sub_len hlen1, k3]
    by_cases e : stepsL w g l n (r + 1) = stepsL w g l n r
    · rw [if_pos e, decide_eq_true (by rw [e])]; rfl
    · rw [if_neg e, decide_eq_false (fun h => e (congrArg (fun z : HT => z.2.2) h)), wrap64 (n := (r : Int) + 1) (by omega) (by omega)]
      rfl) (by
    have e1 : decide ((m.toNat : Int) < m) = false := decide_eq_false (by omega)
    unfold B_MeltI_1
    simp only [e1, cond_false])
  refine key.trans ?_
  cases hf : firstOf (fun r => if stepsL w g l n (r + 1) = stepsL w g l n r then some (miR w g l n r) else none) (m.toNat - 0) 0 with
  | none => rfl
  | some z =>
    obtain ⟨j, _, hj, hs⟩ := firstOf_some _ _ _ _ hf
    split at hs
    · rename_i e
      cases hs
      have := steps_fix n e (m.toNat - j)
      rw [show j + (m.toNat - j) = m.toNat by omega] at this
      show some (miR w g l n j) = some (miR w g l n m.toNat)
      unfold miR
      rw [this]
    · cases hs
theorem p_MeltI (w g : Int) (l : LI) (n m : Int) (r : ((Int × (Int × (List Int))) × Bool)) (h : meltG ((w, g, l), n, m) = some r) : d_MeltI w g l n m = some r := by
  obtain ⟨hb, rfl⟩ := if_some (show (if l.length < 2 ^ 62 then some (flowsF w g l n m) else none) = some r from h)
  have k1 : vhG (w, g, l) = some (vhB (w, g, l)) := if_pos hb
  unfold d_MeltI flowsF withinG
  simp only [sub_all, k1, Option.bind_some]
  by_cases c1 : okH (w, g, l)
  · rw [vh_ok.2 c1, decide_eq_true c1, Bool.true_and]
    cases c2 : (decide (1 ≤ n) && decide (n ≤ 4)) with
    | false => rfl
    | true =>
      rw [Bool.true_and]
      cases c3 : (decide (0 ≤ m) && decide (m ≤ 50)) with
      | false => rfl
      | true =>
        rw [Bool.and_eq_true, decide_eq_true_iff, decide_eq_true_iff] at c3
        have wg : 4 ≤ w * g ∧ w * g ≤ 256 := wg_b c1.1
        have hl : (l.length : Int) = w * g := c1.2.1
        have k2 : clonedG (w, g, l) = some (w, g, l) := if_pos ⟨by show 0 < l.length; omega, by show l.length ≤ 2 ^ 30; omega⟩
        have key := loop_melt n m c3.1 c3.2 c1
        have k3 : vhG (w, g, stepsL w g l n m.toNat) = some (vhB (w, g, stepsL w g l n m.toNat)) := if_pos (by show (stepsL w g l n m.toNat).length < 2 ^ 62; rw [steps_len]; omega)
        simp only [Bool.not_true, cond_false, cond_true, k2, Option.bind_some]
        refine (congrArg (fun z => Option.bind z _) (show iter B_MeltI_1 bigN _ = _ from key)).trans ?_
        simp only [Option.bind_some, sub_len (steps_len (w := w) (g := g) (l := l) n m.toNat), k3, vh_ok.2 (steps_ok n c1 m.toNat), Bool.not_true, cond_false]
  · rw [show vhB (w, g, l) = false from Bool.eq_false_iff.2 fun h => c1 (vh_ok.1 h), decide_eq_false c1]
    rfl
theorem s_MeltI : FTold Try.prog 21 meltS := walkedF (fs := fs) (ss := ss_MeltI) (loop := loops_MeltI) tysOk mixed fnsOk ssOk_MeltI 10 21 [HD, I64, I64] [HD, .bool] rfl _ fun ((w, g, l), n, m) r h => (t_MeltI w g l n m).trans (p_MeltI w g l n m r h)
def yesMG (x : HT × Int × Int) : Option Bool := if x.1.2.2.length ≤ maxLen then some true else none
def yesMS : FSpec := ⟨[HD, I64, I64], [.bool], yesMG⟩
def L_lawMelt_1 : LSpec := ⟨[0, 1, 5], ⟨Shs.at 19 [(0, (.slc 1083368)), (1, (.int IntKind.i64)), (5, (.int IntKind.i64))], [(2, (.arr false (EK.int IntKind.i64))), (1028, (.vals true (.cons (.int IntKind.i64) (.cons (.int IntKind.i64) (.cons (.slc 2) .nil))))), (1076200, (.arr true (EK.int IntKind.i64))), (1079272, (.arr true (EK.int IntKind.i64))), (1033, (.vals true (.cons (.int IntKind.i64) (.cons (.int IntKind.i64) (.cons (.slc 1079272) .nil))))), (1058692, (.arr true (EK.int IntKind.i64))), (1083368, (.arr true (EK.int IntKind.i64))), (1035, (.vals true (.cons (.int IntKind.i64) (.cons (.int IntKind.i64) (.cons (.slc 1083368) .nil))))), (1060740, (.arr true (EK.int IntKind.i64))), (1088488, (.arr true (EK.int IntKind.i64))), (1036, (.vals true (.cons (.int IntKind.i64) (.cons (.int IntKind.i64) (.cons (.slc 1088488) .nil))))), (1061764, (.arr true (EK.int IntKind.i64))), (1102824, (.arr true (EK.int IntKind.i64))), (1106947, (.vals true (.cons (.int IntKind.i64) (.cons (.int IntKind.i64) (.cons (.slc 1083368) .nil)))))]⟩, [⟨.ext 0, [1], ⟨Shs.at 19 [(1, (.int IntKind.i64))], [(2, (.arr false (EK.int IntKind.i64))), (1028, (.vals true (.cons (.int IntKind.i64) (.cons (.int IntKind.i64) (.cons (.slc 2) .nil))))), (1076200, (.arr true (EK.int IntKind.i64))), (1079272, (.arr true (EK.int IntKind.i64))), (1033, (.vals true (.cons (.int IntKind.i64) (.cons (.int IntKind.i64) (.cons (.slc 1079272) .nil))))), (1058692, (.arr true (EK.int IntKind.i64))), (1083368, (.arr true (EK.int IntKind.i64))), (1035, (.vals true (.cons (.int IntKind.i64) (.cons (.int IntKind.i64) (.cons (.slc 1083368) .nil))))), (1060740, (.arr true (EK.int IntKind.i64))), (1088488, (.arr true (EK.int IntKind.i64))), (1036, (.vals true (.cons (.int IntKind.i64) (.cons (.int IntKind.i64) (.cons (.slc 1088488) .nil))))), (1061764, (.arr true (EK.int IntKind.i64))), (1102824, (.arr true (EK.int IntKind.i64))), (1106947, (.vals true (.cons (.int IntKind.i64) (.cons (.int IntKind.i64) (.cons (.slc 1083368) .nil)))))]⟩⟩], fun _ => bigN⟩
def L_lawMelt_2 : LSpec := ⟨[0, 1, 5], ⟨Shs.at 19 [(0, (.slc 1088488)), (1, (.int IntKind.i64)), (5, (.int IntKind.i64))], [(2, (.arr false (EK.int IntKind.i64))), (1028, (.vals true (.cons (.int IntKind.i64) (.cons (.int IntKind.i64) (.cons (.slc 2) .nil))))), (1076200, (.arr true (EK.int IntKind.i64))), (1079272, (.arr true (EK.int IntKind.i64))), (1033, (.vals true (.cons (.int IntKind.i64) (.cons (.int IntKind.i64) (.cons (.slc 1079272) .nil))))), (1058692, (.arr true (EK.int IntKind.i64))), (1083368, (.arr true (EK.int IntKind.i64))), (1035, (.vals true (.cons (.int IntKind.i64) (.cons (.int IntKind.i64) (.cons (.slc 1083368) .nil))))), (1060740, (.arr true (EK.int IntKind.i64))), (1088488, (.arr true (EK.int IntKind.i64))), (1036, (.vals true (.cons (.int IntKind.i64) (.cons (.int IntKind.i64) (.cons (.slc 1088488) .nil))))), (1061764, (.arr true (EK.int IntKind.i64))), (1102824, (.arr true (EK.int IntKind.i64))), (1106947, (.vals true (.cons (.int IntKind.i64) (.cons (.int IntKind.i64) (.cons (.slc 1083368) .nil))))), (1123331, (.vals true (.cons (.int IntKind.i64) (.cons (.int IntKind.i64) (.cons (.slc 1088488) .nil)))))]⟩, [⟨.ext 0, [1], ⟨Shs.at 19 [(1, (.int IntKind.i64))], [(2, (.arr false (EK.int IntKind.i64))), (1028, (.vals true (.cons (.int IntKind.i64) (.cons (.int IntKind.i64) (.cons (.slc 2) .nil))))), (1076200, (.arr true (EK.int IntKind.i64))), (1079272, (.arr true (EK.int IntKind.i64))), (1033, (.vals true (.cons (.int IntKind.i64) (.cons (.int IntKind.i64) (.cons (.slc 1079272) .nil))))), (1058692, (.arr true (EK.int IntKind.i64))), (1083368, (.arr true (EK.int IntKind.i64))), (1035, (.vals true (.cons (.int IntKind.i64) (.cons (.int IntKind.i64) (.cons (.slc 1083368) .nil))))), (1060740, (.arr true (EK.int IntKind.i64))), (1088488, (.arr true (EK.int IntKind.i64))), (1036, (.vals true (.cons (.int IntKind.i64) (.cons (.int IntKind.i64) (.cons (.slc 1088488) .nil))))), (1061764, (.arr true (EK.int IntKind.i64))), (1102824, (.arr true (EK.int IntKind.i64))), (1106947, (.vals true (.cons (.int IntKind.i64) (.cons (.int IntKind.i64) (.cons (.slc 1083368) .nil))))), (1123331, (.vals true (.cons (.int IntKind.i64) (.cons (.int IntKind.i64) (.cons (.slc 1088488) .nil)))))]⟩⟩], fun _ => bigN⟩
def loops_lawMelt (f k n : Nat) : Option LSpec := bif (Nat.beq f 29 && Nat.beq k 2 && Nat.beq n 1106953) then some L_lawMelt_1 else bif (Nat.beq f 29 && Nat.beq k 2 && Nat.beq n 1123337) then some L_lawMelt_2 else none
abbrev S_lawMelt_1 : Type := ((Nat × (Int × (Int × Unit))) × ((List Int) × ((Int × (Int × (Nat × Unit))) × ((List Int) × ((List Int) × ((Int × (Int × (Nat × Unit))) × ((List Int) × ((List Int) × ((Int × (Int × (Nat × Unit))) × ((List Int) × ((List Int) × ((Int × (Int × (Nat × Unit))) × ((List Int) × ((List Int) × ((Int × (Int × (Nat × Unit))) × Unit)))))))))))))))
abbrev R_lawMelt_1 : Type := ((Int × Unit) × ((List Int) × ((Int × (Int × (Nat × Unit))) × ((List Int) × ((List Int) × ((Int × (Int × (Nat × Unit))) × ((List Int) × ((List Int) × ((Int × (Int × (Nat × Unit))) × ((List Int) × ((List Int) × ((Int × (Int × (Nat × Unit))) × ((List Int) × ((List Int) × ((Int × (Int × (Nat × Unit))) × Unit)))))))))))))))
noncomputable def B_lawMelt_1 (y : S_lawMelt_1) : Option (S_lawMelt_1 ⊕ R_lawMelt_1) := bif decide (y.1.2.2.1 < (y.1.1 : Int)) then (bif inB y.1.2.2.1 y.1.1 then (some (Sum.inl (((y.1.1, (IntKind.i64.wrap (y.1.2.1 + 1), (IntKind.i64.wrap (y.1.2.2.1 + 1), ()))), (y.2.1, ((y.2.2.1.1, (y.2.2.1.2.1, (y.2.2.1.2.2.1, ()))), (y.2.2.2.1, (y.2.2.2.2.1, ((y.2.2.2.2.2.1.1, (y.2.2.2.2.2.1.2.1, (y.2.2.2.2.2.1.2.2.1, ()))), (y.2.2.2.2.2.2.1, (List.set y.2.2.2.2.2.2.2.1 (0 + Int.toNat y.1.2.2.1) y.1.2.1, ((y.2.2.2.2.2.2.2.2.1.1, (y.2.2.2.2.2.2.2.2.1.2.1, (y.2.2.2.2.2.2.2.2.1.2.2.1, ()))), (y.2.2.2.2.2.2.2.2.2.1, (y.2.2.2.2.2.2.2.2.2.2.1, ((y.2.2.2.2.2.2.2.2.2.2.2.1.1, (y.2.2.2.2.2.2.2.2.2.2.2.1.2.1, (y.2.2.2.2.2.2.2.2.2.2.2.1.2.2.1, ()))), (y.2.2.2.2.2.2.2.2.2.2.2.2.1, (y.2.2.2.2.2.2.2.2.2.2.2.2.2.1, ((y.2.2.2.2.2.2.2.2.2.2.2.2.2.2.1.1, (y.2.2.2.2.2.2.2.2.2.2.2.2.2.2.1.2.1, (y.2.2.2.2.2.2.2.2.2.2.2.2.2.2.1.2.2.1, ()))), ())))))))))))))))))) else (none)) else (some (Sum.inr (((y.1.2.1, ()), (y.2.1, ((y.2.2.1.1, (y.2.2.1.2.1, (y.2.2.1.2.2.1, ()))), (y.2.2.2.1, (y.2.2.2.2.1, ((y.2.2.2.2.2.1.1, (y.2.2.2.2.2.1.2.1, (y.2.2.2.2.2.1.2.2.1, ()))), (y.2.2.2.2.2.2.1, (y.2.2.2.2.2.2.2.1, ((y.2.2.2.2.2.2.2.2.1.1, (y.2.2.2.2.2.2.2.2.1.2.1, (y.2.2.2.2.2.2.2.2.1.2.2.1, ()))), (y.2.2.2.2.2.2.2.2.2.1, (y.2.2.2.2.2.2.2.2.2.2.1, ((y.2.2.2.2.2.2.2.2.2.2.2.1.1, (y.2.2.2.2.2.2.2.2.2.2.2.1.2.1, (y.2.2.2.2.2.2.2.2.2.2.2.1.2.2.1, ()))), (y.2.2.2.2.2.2.2.2.2.2.2.2.1, (y.2.2.2.2.2.2.2.2.2.2.2.2.2.1, ((y.2.2.2.2.2.2.2.2.2.2.2.2.2.2.1.1, (y.2.2.2.2.2.2.2.2.2.2.2.2.2.2.1.2.1, (y.2.2.2.2.2.2.2.2.2.2.2.2.2.2.1.2.2.1, ()))), ()))))))))))))))))))
abbrev S_lawMelt_2 : Type := ((Nat × (Int × (Int × Unit))) × ((List Int) × ((Int × (Int × (Nat × Unit))) × ((List Int) × ((List Int) × ((Int × (Int × (Nat × Unit))) × ((List Int) × ((List Int) × ((Int × (Int × (Nat × Unit))) × ((List Int) × ((List Int) × ((Int × (Int × (Nat × Unit))) × ((List Int) × ((List Int) × ((Int × (Int × (Nat × Unit))) × ((Int × (Int × (Nat × Unit))) × Unit))))))))))))))))
abbrev R_lawMelt_2 : Type := ((Int × Unit) × ((List Int) × ((Int × (Int × (Nat × Unit))) × ((List Int) × ((List Int) × ((Int × (Int × (Nat × Unit))) × ((List Int) × ((List Int) × ((Int × (Int × (Nat × Unit))) × ((List Int) × ((List Int) × ((Int × (Int × (Nat × Unit))) × ((List Int) × ((List Int) × ((Int × (Int × (Nat × Unit))) × ((Int × (Int × (Nat × Unit))) × Unit))))))))))))))))
noncomputable def B_lawMelt_2 (y : S_lawMelt_2) : Option (S_lawMelt_2 ⊕ R_lawMelt_2) := bif decide (y.1.2.2.1 < (y.1.1 : Int)) then (bif inB y.1.2.2.1 y.1.1 then (some (Sum.inl (((y.1.1, (IntKind.i64.wrap (y.1.2.1 + 1), (IntKind.i64.wrap (y.1.2.2.1 + 1), ()))), (y.2.1, ((y.2.2.1.1, (y.2.2.1.2.1, (y.2.2.1.2.2.1, ()))), (y.2.2.2.1, (y.2.2.2.2.1, ((y.2.2.2.2.2.1.1, (y.2.2.2.2.2.1.2.1, (y.2.2.2.2.2.1.2.2.1, ()))), (y.2.2.2.2.2.2.1, (y.2.2.2.2.2.2.2.1, ((y.2.2.2.2.2.2.2.2.1.1, (y.2.2.2.2.2.2.2.2.1.2.1, (y.2.2.2.2.2.2.2.2.1.2.2.1, ()))), (y.2.2.2.2.2.2.2.2.2.1, (List.set y.2.2.2.2.2.2.2.2.2.2.1 (0 + Int.toNat y.1.2.2.1) y.1.2.1, ((y.2.2.2.2.2.2.2.2.2.2.2.1.1, (y.2.2.2.2.2.2.2.2.2.2.2.1.2.1, (y.2.2.2.2.2.2.2.2.2.2.2.1.2.2.1, ()))), (y.2.2.2.2.2.2.2.2.2.2.2.2.1, (y.2.2.2.2.2.2.2.2.2.2.2.2.2.1, ((y.2.2.2.2.2.2.2.2.2.2.2.2.2.2.1.1, (y.2.2.2.2.2.2.2.2.2.2.2.2.2.2.1.2.1, (y.2.2.2.2.2.2.2.2.2.2.2.2.2.2.1.2.2.1, ()))), ((y.2.2.2.2.2.2.2.2.2.2.2.2.2.2.2.1.1, (y.2.2.2.2.2.2.2.2.2.2.2.2.2.2.2.1.2.1, (y.2.2.2.2.2.2.2.2.2.2.2.2.2.2.2.1.2.2.1, ()))), ()))))))))))))))))))) else (none)) else (some (Sum.inr (((y.1.2.1, ()), (y.2.1, ((y.2.2.1.1, (y.2.2.1.2.1, (y.2.2.1.2.2.1, ()))), (y.2.2.2.1, (y.2.2.2.2.1, ((y.2.2.2.2.2.1.1, (y.2.2.2.2.2.1.2.1, (y.2.2.2.2.2.1.2.2.1, ()))), (y.2.2.2.2.2.2.1, (y.2.2.2.2.2.2.2.1, ((y.2.2.2.2.2.2.2.2.1.1, (y.2.2.2.2.2.2.2.2.1.2.1, (y.2.2.2.2.2.2.2.2.1.2.2.1, ()))), (y.2.2.2.2.2.2.2.2.2.1, (y.2.2.2.2.2.2.2.2.2.2.1, ((y.2.2.2.2.2.2.2.2.2.2.2.1.1, (y.2.2.2.2.2.2.2.2.2.2.2.1.2.1, (y.2.2.2.2.2.2.2.2.2.2.2.1.2.2.1, ()))), (y.2.2.2.2.2.2.2.2.2.2.2.2.1, (y.2.2.2.2.2.2.2.2.2.2.2.2.2.1, ((y.2.2.2.2.2.2.2.2.2.2.2.2.2.2.1.1, (y.2.2.2.2.2.2.2.2.2.2.2.2.2.2.1.2.1, (y.2.2.2.2.2.2.2.2.2.2.2.2.2.2.1.2.2.1, ()))), ((y.2.2.2.2.2.2.2.2.2.2.2.2.2.2.2.1.1, (y.2.2.2.2.2.2.2.2.2.2.2.2.2.2.2.1.2.1, (y.2.2.2.2.2.2.2.2.2.2.2.2.2.2.2.1.2.2.1, ()))), ())))))))))))))))))))
noncomputable def ss_lawMelt : List (Nat × FSpec) := [(18, szHS), (20, copyHS), (19, meltS), (21, meltS), (22, selfHS), (24, heldHS)]
theorem ssOk_lawMelt : FTolds Try.prog ss_lawMelt := ⟨s_szH, s_toH, s_MeltS, s_MeltI, s_eqH, s_heldH, trivial⟩
noncomputable def Γ_lawMelt : Ctx := ctxOf Try.prog tys fs ss_lawMelt loops_lawMelt
noncomputable def d_lawMelt (w g : Int) (l : LI) (n m : Int) : Option (Bool) := Option.bind (szHG ((w, g, sub l 0 (List.length l)), 1048576)) fun (r0 : Int) => (bif decide (r0 < 0) then (some (true)) else (Option.bind (copyHG (w, g, sub l 0 (List.length l))) fun (r1 : (Int × (Int × (List Int)))) => (Option.bind (meltG ((r1.1, r1.2.1, sub r1.2.2 0 (List.length r1.2.2)), n, m)) fun (r2 : ((Int × (Int × (List Int))) × Bool)) => (Option.bind (copyHG (w, g, sub l 0 (List.length l))) fun (r3 : (Int × (Int × (List Int)))) => (Option.bind (meltG ((r3.1, r3.2.1, sub r3.2.2 0 (List.length r3.2.2)), n, m)) fun (r4 : ((Int × (Int × (List Int))) × Bool)) => (Option.bind (selfHG ((r4.1.1, r4.1.2.1, sub r4.1.2.2 0 (List.length r4.1.2.2)), r2.1.1, r2.1.2.1, sub r2.1.2.2 0 (List.length r2.1.2.2))) fun (r5 : Bool) => (bif !r5 then (some (false)) else (bif !r4.2 == r2.2 then (some (false)) else (Option.bind (copyHG (w, g, sub l 0 (List.length l))) fun (r6 : (Int × (Int × (List Int)))) => (Option.bind (selfHG ((r3.1, r3.2.1, sub r3.2.2 0 (List.length r3.2.2)), r6.1, r6.2.1, sub r6.2.2 0 (List.length r6.2.2))) fun (r7 : Bool) => (bif !r7 then (some (false)) else (Option.bind (iter B_lawMelt_1 bigN (((List.length r3.2.2, (1, (0, ()))), (l, ((w, (g, (List.length l, ()))), (r1.2.2, (r2.1.2.2, ((r2.1.1, (r2.1.2.1, (List.length r2.1.2.2, ()))), ([], (r3.2.2, ((r3.1, (r3.2.1, (List.length r3.2.2, ()))), ([], (r4.1.2.2, ((r4.1.1, (r4.1.2.1, (List.length r4.1.2.2, ()))), ([], (r6.2.2, ((r3.1, (r3.2.1, (List.length r3.2.2, ()))), ()))))))))))))))))) fun (r8 : ((Int × Unit) × ((List Int) × ((Int × (Int × (Nat × Unit))) × ((List Int) × ((List Int) × ((Int × (Int × (Nat × Unit))) × ((List Int) × ((List Int) × ((Int × (Int × (Nat × Unit))) × ((List Int) × ((List Int) × ((Int × (Int × (Nat × Unit))) × ((List Int) × ((List Int) × ((Int × (Int × (Nat × Unit))) × Unit)))))))))))))))) => (bif decide (r8.1.1 < 0) then (some (false)) else (Option.bind (selfHG ((r8.2.2.2.2.2.2.2.2.2.2.2.1.1, r8.2.2.2.2.2.2.2.2.2.2.2.1.2.1, sub r8.2.2.2.2.2.2.2.2.2.2.1 0 r8.2.2.2.2.2.2.2.2.2.2.2.1.2.2.1), r8.2.2.2.2.2.1.1, r8.2.2.2.2.2.1.2.1, sub r8.2.2.2.2.1 0 r8.2.2.2.2.2.1.2.2.1)) fun (r9 : Bool) => (bif !r9 then (some (false)) else (bif !r4.2 == r2.2 then (some (false)) else (Option.bind (iter B_lawMelt_2 bigN (((r8.2.2.2.2.2.2.2.2.2.2.2.1.2.2.1, (1, (0, ()))), (r8.2.1, ((r8.2.2.1.1, (r8.2.2.1.2.1, (r8.2.2.1.2.2.1, ()))), (r8.2.2.2.1, (r8.2.2.2.2.1, ((r8.2.2.2.2.2.1.1, (r8.2.2.2.2.2.1.2.1, (r8.2.2.2.2.2.1.2.2.1, ()))), (r8.2.2.2.2.2.2.1, (r8.2.2.2.2.2.2.2.1, ((r8.2.2.2.2.2.2.2.2.1.1, (r8.2.2.2.2.2.2.2.2.1.2.1, (r8.2.2.2.2.2.2.2.2.1.2.2.1, ()))), (r8.2.2.2.2.2.2.2.2.2.1, (r8.2.2.2.2.2.2.2.2.2.2.1, ((r8.2.2.2.2.2.2.2.2.2.2.2.1.1, (r8.2.2.2.2.2.2.2.2.2.2.2.1.2.1, (r8.2.2.2.2.2.2.2.2.2.2.2.1.2.2.1, ()))), (r8.2.2.2.2.2.2.2.2.2.2.2.2.1, (r8.2.2.2.2.2.2.2.2.2.2.2.2.2.1, ((r8.2.2.2.2.2.2.2.2.2.2.2.2.2.2.1.1, (r8.2.2.2.2.2.2.2.2.2.2.2.2.2.2.1.2.1, (r8.2.2.2.2.2.2.2.2.2.2.2.2.2.2.1.2.2.1, ()))), ((r8.2.2.2.2.2.2.2.2.2.2.2.1.1, (r8.2.2.2.2.2.2.2.2.2.2.2.1.2.1, (r8.2.2.2.2.2.2.2.2.2.2.2.1.2.2.1, ()))), ())))))))))))))))))) fun (r10 : ((Int × Unit) × ((List Int) × ((Int × (Int × (Nat × Unit))) × ((List Int) × ((List Int) × ((Int × (Int × (Nat × Unit))) × ((List Int) × ((List Int) × ((Int × (Int × (Nat × Unit))) × ((List Int) × ((List Int) × ((Int × (Int × (Nat × Unit))) × ((List Int) × ((List Int) × ((Int × (Int × (Nat × Unit))) × ((Int × (Int × (Nat × Unit))) × Unit))))))))))))))))) => (Option.bind (heldHG ((r10.2.2.2.2.2.2.2.2.2.2.2.1.1, r10.2.2.2.2.2.2.2.2.2.2.2.1.2.1, sub r10.2.2.2.2.2.2.2.2.2.2.1 0 r10.2.2.2.2.2.2.2.2.2.2.2.1.2.2.1), 1)) fun (r11 : Int) => (bif decide (r11 < 0) then (some (false)) else (bif r11 != r10.1.1 then (some (false)) else (Option.bind (copyHG (r10.2.2.1.1, r10.2.2.1.2.1, sub r10.2.1 0 r10.2.2.1.2.2.1)) fun (r12 : (Int × (Int × (List Int)))) => (Option.bind (meltG ((r12.1, r12.2.1, sub r12.2.2 0 (List.length r12.2.2)), n, m)) fun (r13 : ((Int × (Int × (List Int))) × Bool)) => (Option.bind (selfHG ((r13.1.1, r13.1.2.1, sub r13.1.2.2 0 (List.length r13.1.2.2)), r10.2.2.2.2.2.1.1, r10.2.2.2.2.2.1.2.1, sub r10.2.2.2.2.1 0 r10.2.2.2.2.2.1.2.2.1)) fun (r14 : Bool) => (bif !r14 then (some (false)) else (bif !r13.2 == r2.2 then (some (false)) else (Option.bind (heldHG ((r10.2.2.2.2.2.2.2.2.2.2.2.1.1, r10.2.2.2.2.2.2.2.2.2.2.2.1.2.1, sub r10.2.2.2.2.2.2.2.2.2.2.1 0 r10.2.2.2.2.2.2.2.2.2.2.2.1.2.2.1), 1)) fun (r15 : Int) => (bif decide (r15 < 0) then (some (false)) else (bif r15 != r10.1.1 then (some (false)) else (some (true))))))))))))))))))))))))))))))
theorem t_lawMelt (w g : Int) (l : LI) (n m : Int) : (fnT Γ_lawMelt 10 4 [HD, I64, I64] [.bool] ((w, g, l), n, m)).den = d_lawMelt w g l n m := by kernel_rfl
theorem k_lawMelt_1 {k : Int} {v0 : (List Int)} {v1 : Int} {v2 : Int} {v3 : Nat} {v5 : (List Int)} {v6 : (List Int)} {v7 : Int} {v8 : Int} {v9 : Nat} {v11 : (List Int)} {v12 : (List Int)} {v13 : Int} {v14 : Int} {v15 : Nat} {v17 : (List Int)} {v18 : (List Int)} {v19 : Int} {v20 : Int} {v21 : Nat} {v23 : (List Int)} {v24 : (List Int)} {v25 : Int} {v26 : Int} {v27 : Nat} (hb : v12.length < 2 ^ 60) (h0 : 0 ≤ k) (h1 : k < 2 ^ 60) : iter B_lawMelt_1 bigN ((v12.length, (k, (0, ()))), (v0, ((v1, (v2, (v3, ()))), (v5, (v6, ((v7, (v8, (v9, ()))), (v11, (v12, ((v13, (v14, (v15, ()))), (v17, (v18, ((v19, (v20, (v21, ()))), (v23, (v24, ((v25, (v26, (v27, ()))), ()))))))))))))))) = some ((((k + (v12.length : Int)), ()), (v0, ((v1, (v2, (v3, ()))), (v5, (v6, ((v7, (v8, (v9, ()))), (v11, ((imarks k v12.length), ((v13, (v14, (v15, ()))), (v17, (v18, ((v19, (v20, (v21, ()))), (v23, (v24, ((v25, (v26, (v27, ()))), ())))))))))))))))) := by
  have key := iter_for (B := B_lawMelt_1) (fun i => ((v12.length, (k + i, ((i : Int), ()))), (v0, ((v1, (v2, (v3, ()))), (v5, (v6, ((v7, (v8, (v9, ()))), (v11, ((imarkUp k v12 i), ((v13, (v14, (v15, ()))), (v17, (v18, ((v19, (v20, (v21, ()))), (v23, (v24, ((v25, (v26, (v27, ()))), ())))))))))))))))) 0 v12.length ((((k + (v12.length : Int)), ()), (v0, ((v1, (v2, (v3, ()))), (v5, (v6, ((v7, (v8, (v9, ()))), (v11, ((imarks k v12.length), ((v13, (v14, (v15, ()))), (v17, (v18, ((v19, (v20, (v21, ()))), (v23, (v24, ((v25, (v26, (v27, ()))), ())))))))))))))))) (Nat.zero_le _) (by omega) (fun i _ hi => by
    unfold B_lawMelt_1
    simp only [ltT hi, inB_of hi, inc64 hi (show v12.length < 2 ^ 62 by omega), wrapAdd h0 h1 (show i < 2 ^ 60 by omega), Int.toNat_natCast, Nat.zero_add, cond_true, imarkUp_succ k v12 hi]) (by
    unfold B_lawMelt_1
    simp only [ltF, cond_false, imarkUp_end])
  simpa only [imarkUp_zero, Int.natCast_zero, Int.add_zero] using key
theorem k_lawMelt_2 {k : Int} {v0 : (List Int)} {v1 : Int} {v2 : Int} {v3 : Nat} {v5 : (List Int)} {v6 : (List Int)} {v7 : Int} {v8 : Int} {v9 : Nat} {v11 : (List Int)} {v12 : (List Int)} {v13 : Int} {v14 : Int} {v15 : Nat} {v17 : (List Int)} {v18 : (List Int)} {v19 : Int} {v20 : Int} {v21 : Nat} {v23 : (List Int)} {v24 : (List Int)} {v25 : Int} {v26 : Int} {v27 : Nat} {v29 : Int} {v30 : Int} {v31 : Nat} (hb : v18.length < 2 ^ 60) (h0 : 0 ≤ k) (h1 : k < 2 ^ 60) : iter B_lawMelt_2 bigN ((v18.length, (k, (0, ()))), (v0, ((v1, (v2, (v3, ()))), (v5, (v6, ((v7, (v8, (v9, ()))), (v11, (v12, ((v13, (v14, (v15, ()))), (v17, (v18, ((v19, (v20, (v21, ()))), (v23, (v24, ((v25, (v26, (v27, ()))), ((v29, (v30, (v31, ()))), ())))))))))))))))) = some ((((k + (v18.length : Int)), ()), (v0, ((v1, (v2, (v3, ()))), (v5, (v6, ((v7, (v8, (v9, ()))), (v11, (v12, ((v13, (v14, (v15, ()))), (v17, ((imarks k v18.length), ((v19, (v20, (v21, ()))), (v23, (v24, ((v25, (v26, (v27, ()))), ((v29, (v30, (v31, ()))), ()))))))))))))))))) := by
  have key := iter_for (B := B_lawMelt_2) (fun i => ((v18.length, (k + i, ((i : Int), ()))), (v0, ((v1, (v2, (v3, ()))), (v5, (v6, ((v7, (v8, (v9, ()))), (v11, (v12, ((v13, (v14, (v15, ()))), (v17, ((imarkUp k v18 i), ((v19, (v20, (v21, ()))), (v23, (v24, ((v25, (v26, (v27, ()))), ((v29, (v30, (v31, ()))), ()))))))))))))))))) 0 v18.length ((((k + (v18.length : Int)), ()), (v0, ((v1, (v2, (v3, ()))), (v5, (v6, ((v7, (v8, (v9, ()))), (v11, (v12, ((v13, (v14, (v15, ()))), (v17, ((imarks k v18.length), ((v19, (v20, (v21, ()))), (v23, (v24, ((v25, (v26, (v27, ()))), ((v29, (v30, (v31, ()))), ()))))))))))))))))) (Nat.zero_le _) (by omega) (fun i _ hi => by
    unfold B_lawMelt_2
    simp only [ltT hi, inB_of hi, inc64 hi (show v18.length < 2 ^ 62 by omega), wrapAdd h0 h1 (show i < 2 ^ 60 by omega), Int.toNat_natCast, Nat.zero_add, cond_true, imarkUp_succ k v18 hi]) (by
    unfold B_lawMelt_2
    simp only [ltF, cond_false, imarkUp_end])
  simpa only [imarkUp_zero, Int.natCast_zero, Int.add_zero] using key
theorem flowsF_len (w g : Int) (l : LI) (n m : Int) : (flowsF w g l n m).1.2.2.length ≤ l.length := by
  unfold flowsF
  cases (decide (okH (w, g, l)) && (decide (1 ≤ n) && decide (n ≤ 4)) && (decide (0 ≤ m) && decide (m ≤ 50)))
  · exact Nat.zero_le _
  · exact Nat.le_of_eq (steps_len n m.toNat)
theorem heldH_marks {w g : Int} {m : Nat} (hm : m < 2 ^ 40) : heldHG ((w, g, imarks 1 m), 1) = some (1 + (m : Int)) := by
  have : heldHG ((w, g, imarks 1 m), 1) = some (1 + ((imarks 1 m).length : Int)) := if_pos ⟨by show _ = imarks 1 (imarks 1 m).length; rw [imarks_len], by show (imarks 1 m).length < 2 ^ 40; rw [imarks_len]; omega, show (0 : Int) ≤ 1 by decide, show (1 : Int) < 2 ^ 50 by decide⟩
  rw [this, imarks_len]
theorem p_lawMelt (w g : Int) (l : LI) (n m : Int) (r : Bool) (h : yesMG ((w, g, l), n, m) = some r) : d_lawMelt w g l n m = some r := by
  obtain ⟨h1, rfl⟩ := if_some (show (if l.length ≤ maxLen then some true else none) = some r from h)
  have k1 : szHG ((w, g, l), 1048576) = some (szF 1048576 l.length) := if_pos ⟨show (0 : Int) ≤ 1048576 by decide, show (1048576 : Int) ≤ 2 ^ 20 by decide, h1⟩
  unfold d_lawMelt
  simp only [sub_all, k1, Option.bind_some]
  by_cases c1 : (1048576 : Int) < (l.length : Int)
  · have e1 : szF 1048576 l.length = -1 := if_pos c1
    rw [e1]; rfl
  · have e1 : szF 1048576 l.length = 1048576 - l.length := if_neg c1
    rw [e1, decide_eq_false (by omega), cond_false]
    have hl := flowsF_len w g l n m
    obtain ⟨⟨⟨g1, g2, g3⟩, ok⟩, hg⟩ : ∃ z, flowsF w g l n m = z := ⟨_, rfl⟩
    rw [hg] at hl
    have l1 : g3.length ≤ l.length := hl
    have p1 : copyHG (w, g, l) = some (w, g, l) := if_pos (by show l.length ≤ 2 ^ 40; omega)
    have p3 : meltG ((w, g, l), n, m) = some ((g1, g2, g3), ok) := (if_pos (by show l.length < 2 ^ 62; omega)).trans (congrArg some hg)
    have p4 : selfHG ((w, g, l), (w, g, l)) = some true := if_pos ⟨rfl, by show l.length < 2 ^ 62; omega⟩
    have p5 : selfHG ((g1, g2, g3), (g1, g2, g3)) = some true := if_pos ⟨rfl, by show g3.length < 2 ^ 62; omega⟩
    have p6 := heldH_marks (w := g1) (g := g2) (m := g3.length) (by omega)
    have q1 : decide (1 + (l.length : Int) < 0) = false := decide_eq_false (by omega)
    have q2 : decide (1 + (g3.length : Int) < 0) = false := decide_eq_false (by omega)
    simp only [p1, p3, p4, p5, Option.bind_some, sub_all, Bool.not_true, cond_false, eq_not_self]
    refine (congrArg (fun z => Option.bind z _) (k_lawMelt_1 (by omega) (by decide) (by decide))).trans ?_
    simp only [Option.bind_some, q1, cond_false, sub_all, p5, Bool.not_true, eq_not_self]
    refine (congrArg (fun z => Option.bind z _) (k_lawMelt_2 (by omega) (by decide) (by decide))).trans ?_
    simp only [Option.bind_some, sub_imarks, p6, q2, cond_false, eq_bne, p1, p3, sub_all, p5, Bool.not_true, eq_not_self]
theorem s_lawMelt : FTold Try.prog 4 yesMS := walkedF (fs := fs) (ss := ss_lawMelt) (loop := loops_lawMelt) tysOk mixed fnsOk ssOk_lawMelt 10 4 [HD, I64, I64] [.bool] rfl _ fun ((w, g, l), n, m) r h => (t_lawMelt w g l n m).trans (p_lawMelt w g l n m r h)
open Go.RowKit Go.ChangeShapes Go.WideShapes Go.ChangeAt
set_option maxRecDepth 100000 in
theorem lifted_lawMelt (os : Os) (started : os.Started) (H : Type) (enc : TypeId × Value → H) :
    ReturnsInHanded {} Try.checked os 4 .any (Rows.fnExactMeltStepsSpec.pre6 enc Try.prog Try.f4 Rows.fnExactMeltStepsRow.domain false) (Rows.fnExactMeltStepsSpec.post enc Try.prog Try.f4 false true false false) := by
  refine returnsInHanded_of_change (C := Try.checked) own started (by kernel_rfl) Try.func4
    (ChangeSpec.witness6 (enc := enc) (C := Try.checked) false ⟨#[], #[.agg #[.int .i64 0, .int .i64 0, .slice none 0 0], .int .i64 0, .int .i64 0], []⟩ 8 (by kernel_rfl) (by kernel_rfl) (by kernel_rfl) (by kernel_rfl)) ?_
  intro W base args ds gs before hval hW _ _
  exact law_post (P := Try.prog) (fn := Try.f4) (s := Rows.fnExactMeltStepsSpec) laidOut s_lawMelt.out Try.func4 rfl (by kernel_rfl) (by kernel_rfl) (by kernel_rfl) rfl Try.underlying4 rfl (fun ds h => by
    match ds, h with
    | [d0, d1, d2], _ => exact ⟨rfl, rfl, rfl⟩) (fun ((w, g, l), n, m) hw => by
      obtain ⟨h1, _⟩ := hw
      exact if_pos h1.2.2.1) W base args ds gs before hval hW

theorem over4 : Rows.FnExactMeltStepsSaid :=
  OpenClaim.holds_of_wide 4 Try.f4 rfl rfl rfl rfl rfl rfl rfl ⟨rfl, rfl, rfl, rfl, rfl⟩ rfl rfl rfl rfl rfl (by kernel_rfl) Try.func4 (by kernel_rfl)
    (of_decide_eq_true (by kernel_rfl)) (by unfold Func.isWrapper; first | (rw [if_pos (by decide +kernel)]; kernel_rfl) | (rw [if_neg (by decide +kernel)]; exact ⟨rfl, rfl⟩))
    (fun os started H enc _ => lifted_lawMelt os started H enc)
end Go.Proofs.Ytjggcekliaalgaa
