/- The program's ShareAfter and HeldCurve answer as the reference's do, at all arguments. No condition. -/
import Derived.Test.YtdlcebiglolfjaaK5
namespace Go.Proofs.Ytdlcebiglolfjaa
open Go.Ab
def least (x : Fl .f32) : Bool := fin x && fge x (Fl.of .f32 0)
def leastG (x : Fl .f32) : Option Bool := some (least x)
def leastS : FSpec := ⟨[F32], [.bool], leastG⟩
def loops_least (_ _ _ : Nat) : Option LSpec := none
noncomputable def ss_least : List (Nat × FSpec) := [(81, finS)]
theorem ssOk_least : FTolds Try.prog ss_least := ⟨s_l01Finite, trivial⟩
noncomputable def Γ_least : Ctx := ctxOf Try.prog tys fs ss_least loops_least
noncomputable def d_least (x : Fl .f32) : Option (Bool) := Option.bind (finG x) fun (r0 : Bool) => (bif r0 then (some (fge x (Fl.of .f32 0))) else (some (false)))
theorem t_least (x : Fl .f32) : (fnT Γ_least 10 82 [F32] [.bool] x).den = d_least x := by kernel_rfl
theorem p_least (x : Fl .f32) (r : Bool) (h : leastG x = some r) : d_least x = some r := by
  refine Eq.trans ?_ h
  unfold d_least leastG least finG
  cases fin x <;> rfl
theorem s_least : FTold Try.prog 82 leastS := walkedF (fs := fs) (ss := ss_least) (loop := loops_least) tysOk mixed fnsOk ssOk_least 10 82 [F32] [.bool] rfl _ fun x r h => (t_least x).trans (p_least x r h)
def loops_aMass (_ _ _ : Nat) : Option LSpec := none
noncomputable def ss_aMass : List (Nat × FSpec) := [(73, finS)]
theorem ssOk_aMass : FTolds Try.prog ss_aMass := ⟨s_IsFinite, trivial⟩
noncomputable def Γ_aMass : Ctx := ctxOf Try.prog tys fs ss_aMass loops_aMass
noncomputable def d_aMass (x : Fl .f32) : Option (Bool) := Option.bind (finG x) fun (r0 : Bool) => (bif r0 then (some (fge x (Fl.of .f32 0))) else (some (false)))
theorem t_aMass (x : Fl .f32) : (fnT Γ_aMass 10 85 [F32] [.bool] x).den = d_aMass x := by kernel_rfl
theorem p_aMass (x : Fl .f32) (r : Bool) (h : leastG x = some r) : d_aMass x = some r := by
  refine Eq.trans ?_ h
  unfold d_aMass leastG least finG
  cases fin x <;> rfl
theorem s_aMass : FTold Try.prog 85 leastS := walkedF (fs := fs) (ss := ss_aMass) (loop := loops_aMass) tysOk mixed fnsOk ssOk_aMass 10 85 [F32] [.bool] rfl _ fun x r h => (t_aMass x).trans (p_aMass x r h)
theorem zero32 : fin (Fl.of .f32 0) = true ∧ val (Fl.of .f32 0) = 0 := by decide +kernel
theorem one32 : fin (Fl.of .f32 1065353216) = true ∧ val (Fl.of .f32 1065353216) = 1 := by decide +kernel
theorem least_nn {m : Fl .f32} (h : least m = true) : NN m := by
  unfold least at h
  rw [Bool.and_eq_true] at h
  intro _
  have := h.2
  rw [fge_val h.1 zero32.1, zero32.2] at this
  exact of_decide_eq_true this
theorem okL_of {x : LT} (h : okL x = true) : fin x.2.2.1 = true ∧ fgt x.2.2.1 (Fl.of .f32 0) = true ∧ 1 ≤ x.2.2.2 ∧ x.2.2.2 ≤ 4 := by
  unfold okL at h
  cases h1 : fin x.1 <;> cases h2 : fin x.2.1 <;> cases h3 : fgt x.2.1 (Fl.of .f32 0) <;> cases h4 : fin x.2.2.1 <;> cases h5 : fgt x.2.2.1 (Fl.of .f32 0) <;> simp only [h1, h2, h3, h4, h5, cond_true, cond_false, Bool.false_eq_true, Bool.and_eq_true, decide_eq_true_eq] at h
  exact ⟨rfl, rfl, h⟩
theorem speed_nn {x : LT} (h : okL x = true) (t : Fl .f32) : NN (speedF x t) := by
  obtain ⟨h1, h2, _⟩ := okL_of h
  refine NN.mul (fun _ => ?_) (expF_nn (expD_neg (NN.sq _)))
  rw [fgt_val h1 zero32.1, zero32.2] at h2
  exact Rat.le_of_lt (of_decide_eq_true h2)
/-- a power -/
def powN (x : Fl .f32) : Nat → Fl .f32
  | 0 => Fl.of .f32 1065353216
  | k + 1 => fmul (powN x k) x
theorem powN_nn {x : Fl .f32} (h : NN x) : ∀ k, NN (powN x k)
  | 0 => fun _ => by show (0 : Rat) ≤ val (Fl.of .f32 1065353216); rw [one32.2]; decide +kernel
  | k + 1 => NN.mul (powN_nn h k) h
def afterF (x : LT) (t m : Fl .f32) : Fl .f32 := fsub (Fl.of .f32 1065353216) (expF (fneg (powN (fmul (speedF x t) m) x.2.2.2.toNat)))
theorem after_exp {x : LT} {t m : Fl .f32} (h : okL x = true) (hm : least m = true) (k : Nat) : expG (fneg (powN (fmul (speedF x t) m) k)) = some (expF (fneg (powN (fmul (speedF x t) m) k))) :=
  expG_some (expD_neg (powN_nn (NN.mul (speed_nn h t) (least_nn hm)) k))
def aftPG (x : LT × Fl .f32 × Fl .f32) : Option (Fl .f32) := if okL x.1 = true ∧ least x.2.2 = true then some (afterF x.1 x.2.1 x.2.2) else none
def aftPS : FSpec := ⟨[.ptr lawD, F32, F32], [F32], aftPG⟩
def L_after_1 : LSpec := ⟨[0, 7, 8, 9], ⟨Shs.at 30 [(0, (.ptr 2 0 0)), (7, (.flt FloatKind.f32)), (8, (.flt FloatKind.f32)), (9, (.int IntKind.i64))], [(2, (.vals false (.cons (.flt FloatKind.f32) (.cons (.flt FloatKind.f32) (.cons (.flt FloatKind.f32) (.cons (.int IntKind.i64) .nil))))))]⟩, [⟨.ext 0, [8], ⟨Shs.at 30 [(8, (.flt FloatKind.f32))], [(2, (.vals false (.cons (.flt FloatKind.f32) (.cons (.flt FloatKind.f32) (.cons (.flt FloatKind.f32) (.cons (.int IntKind.i64) .nil))))))]⟩⟩], fun _ => bigN⟩
def loops_after (f k n : Nat) : Option LSpec := bif (Nat.beq f 132 && Nat.beq k 4 && Nat.beq n 1) then some L_after_1 else none
abbrev S_after_1 : Type := (((Fl .f32) × ((Fl .f32) × (Int × Unit))) × (((Fl .f32) × ((Fl .f32) × ((Fl .f32) × (Int × Unit)))) × Unit))
abbrev R_after_1 : Type := (((Fl .f32) × Unit) × (((Fl .f32) × ((Fl .f32) × ((Fl .f32) × (Int × Unit)))) × Unit))
noncomputable def B_after_1 (y : S_after_1) : Option (S_after_1 ⊕ R_after_1) := bif decide (y.1.2.2.1 < y.2.1.2.2.2.1) then (some (Sum.inl (((y.1.1, (fmul y.1.2.1 y.1.1, (IntKind.i64.wrap (y.1.2.2.1 + 1), ()))), ((y.2.1.1, (y.2.1.2.1, (y.2.1.2.2.1, (y.2.1.2.2.2.1, ())))), ()))))) else (some (Sum.inr (((y.1.2.1, ()), ((y.2.1.1, (y.2.1.2.1, (y.2.1.2.2.1, (y.2.1.2.2.2.1, ())))), ())))))
noncomputable def ss_after : List (Nat × FSpec) := [(94, spdPS), (136, expS)]
theorem ssOk_after : FTolds Try.prog ss_after := ⟨s_speedS, s_expS, trivial⟩
noncomputable def Γ_after : Ctx := ctxOf Try.prog tys fs ss_after loops_after
noncomputable def d_after (a b c : Fl .f32) (n : Int) (t m : Fl .f32) : Option ((Fl .f32)) := Option.bind (spdPG ((a, b, c, n), t)) fun (r0 : (Fl .f32)) => (Option.bind (iter B_after_1 bigN (((fmul r0 m, (Fl.of .f32 1065353216, (0, ()))), ((a, (b, (c, (n, ())))), ())))) fun (r1 : (((Fl .f32) × Unit) × (((Fl .f32) × ((Fl .f32) × ((Fl .f32) × (Int × Unit)))) × Unit))) => (Option.bind (expG (fneg r1.1.1)) fun (r2 : (Fl .f32)) => (some (fsub (Fl.of .f32 1065353216) r2))))
theorem t_after (a b c : Fl .f32) (n : Int) (t m : Fl .f32) : (fnT Γ_after 10 132 [.ptr lawD, F32, F32] [F32] ((a, b, c, n), t, m)).den = d_after a b c n t m := by kernel_rfl
theorem p_after (a b c : Fl .f32) (n : Int) (t m : Fl .f32) (r : (Fl .f32)) (h : aftPG ((a, b, c, n), t, m) = some r) : d_after a b c n t m = some r := by
  obtain ⟨⟨h1, h2⟩, rfl⟩ := if_some (show (if okL (a, b, c, n) = true ∧ least m = true then some (afterF (a, b, c, n) t m) else none) = some r from h)
  obtain ⟨_, _, h3, h4⟩ := okL_of h1
  obtain ⟨j, rfl⟩ : ∃ j : Nat, n = j := ⟨n.toNat, by have : (0 : Int) ≤ n := Int.le_trans (by decide) h3; omega⟩
  have h4' : (j : Int) ≤ 4 := h4
  have e := after_exp (t := t) h1 h2 j
  have key := iter_for (B := B_after_1) (fun i => ((fmul (speedF (a, b, c, (j : Int)) t) m, (powN (fmul (speedF (a, b, c, (j : Int)) t) m) i, ((i : Int), ()))), ((a, (b, (c, ((j : Int), ())))), ()))) 0 j ((powN (fmul (speedF (a, b, c, (j : Int)) t) m) j, ()), ((a, (b, (c, ((j : Int), ())))), ())) (Nat.zero_le _) (by omega) (fun i _ hi => by
    unfold B_after_1
    simp only [ltT hi, inc64 hi (show j < 2 ^ 62 by omega), cond_true]
    rfl) (by
    unfold B_after_1
    simp only [ltF, cond_false])
  unfold d_after spdPG
  simp only [Option.bind_some]
  refine (congrArg (fun z => Option.bind z _) (show iter B_after_1 bigN _ = _ from key)).trans ?_
  simp only [Option.bind_some]
  rw [e]
  rfl
theorem s_after : FTold Try.prog 132 aftPS := walkedF (fs := fs) (ss := ss_after) (loop := loops_after) tysOk mixed fnsOk ssOk_after 10 132 [.ptr lawD, F32, F32] [F32] rfl _ fun ((a, b, c, n), t, m) r h => (t_after a b c n t m).trans (p_after a b c n t m r h)
def shareF (x : LT) (t m : Fl .f32) : Fl .f32 × Bool := if okL x = true ∧ fin t = true ∧ least m = true then (if fin (afterF x t m) = true then (afterF x t m, true) else (Fl.of .f32 0, false)) else (Fl.of .f32 0, false)
def shareG (x : LT × Fl .f32 × Fl .f32) : Option (Fl .f32 × Bool) := some (shareF x.1 x.2.1 x.2.2)
def shareS : FSpec := ⟨[lawD, F32, F32], [F32, .bool], shareG⟩
def L_ShareI_1 : LSpec := ⟨[8, 9, 29, 30], ⟨Shs.at 43 [(8, (.flt FloatKind.f32)), (9, (.flt FloatKind.f32)), (29, (.int IntKind.i64)), (30, (.int IntKind.i64))], []⟩, [⟨.ext 0, [9], ⟨Shs.at 43 [(9, (.flt FloatKind.f32))], []⟩⟩], fun _ => bigN⟩
def loops_ShareI (f k n : Nat) : Option LSpec := bif (Nat.beq f 177 && Nat.beq k 5 && Nat.beq n 1) then some L_ShareI_1 else none
abbrev S_ShareI_1 : Type := (((Fl .f32) × ((Fl .f32) × (Int × (Int × Unit)))) × Unit)
abbrev R_ShareI_1 : Type := (((Fl .f32) × Unit) × Unit)
noncomputable def B_ShareI_1 (y : S_ShareI_1) : Option (S_ShareI_1 ⊕ R_ShareI_1) := bif decide (y.1.2.2.2.1 < y.1.2.2.1) then (some (Sum.inl (((y.1.1, (fmul y.1.2.1 y.1.1, (y.1.2.2.1, (IntKind.i64.wrap (y.1.2.2.2.1 + 1), ())))), ())))) else (some (Sum.inr (((y.1.2.1, ()), ()))))
noncomputable def ss_ShareI : List (Nat × FSpec) := [(75, okLS), (73, finS), (85, leastS), (138, spdS), (131, expS), (92, toldS)]
theorem ssOk_ShareI : FTolds Try.prog ss_ShareI := ⟨s_lawI, s_IsFinite, s_aMass, s_speedI, s_expI, s_told, trivial⟩
noncomputable def Γ_ShareI : Ctx := ctxOf Try.prog tys fs ss_ShareI loops_ShareI
noncomputable def d_ShareI (a b c : Fl .f32) (n : Int) (t m : Fl .f32) : Option (((Fl .f32) × Bool)) := Option.bind (okLG (a, b, c, n)) fun (r0 : Bool) => (bif !r0 then (some ((Fl.of .f32 0, false))) else (Option.bind (finG t) fun (r1 : Bool) => (bif !r1 then (some ((Fl.of .f32 0, false))) else (Option.bind (leastG m) fun (r2 : Bool) => (bif !r2 then (some ((Fl.of .f32 0, false))) else (Option.bind (spdG ((a, b, c, n), t)) fun (r3 : (Fl .f32)) => (Option.bind (iter B_ShareI_1 bigN (((fmul r3 m, (Fl.of .f32 1065353216, (n, (0, ())))), ()))) fun (r4 : (((Fl .f32) × Unit) × Unit)) => (Option.bind (expG (fneg r4.1.1)) fun (r5 : (Fl .f32)) => (Option.bind (toldG (fsub (Fl.of .f32 1065353216) r5)) fun (r6 : ((Fl .f32) × Bool)) => (some ((r6.1, r6.2))))))))))))
theorem t_ShareI (a b c : Fl .f32) (n : Int) (t m : Fl .f32) : (fnT Γ_ShareI 10 177 [lawD, F32, F32] [F32, .bool] ((a, b, c, n), t, m)).den = d_ShareI a b c n t m := by kernel_rfl
theorem p_ShareI (a b c : Fl .f32) (n : Int) (t m : Fl .f32) (r : ((Fl .f32) × Bool)) (h : shareG ((a, b, c, n), t, m) = some r) : d_ShareI a b c n t m = some r := by
  refine Eq.trans ?_ h
  unfold d_ShareI shareG shareF okLG finG leastG spdG
  simp only [Option.bind_some, told_tell5]
  cases h1 : okL (a, b, c, n) with
  | false => rfl
  | true =>
    cases h2 : fin t with
    | false => rfl
    | true =>
      cases h5 : least m with
      | false => rfl
      | true =>
        obtain ⟨_, _, h3, h4⟩ := okL_of h1
        obtain ⟨j, rfl⟩ : ∃ j : Nat, n = j := ⟨n.toNat, by have : (0 : Int) ≤ n := Int.le_trans (by decide) h3; omega⟩
        have h4' : (j : Int) ≤ 4 := h4
        have e := after_exp (t := t) h1 h5 j
        have key := iter_for (B := B_ShareI_1) (fun i => ((fmul (speedF (a, b, c, (j : Int)) t) m, (powN (fmul (speedF (a, b, c, (j : Int)) t) m) i, ((j : Int), ((i : Int), ())))), ())) 0 j ((powN (fmul (speedF (a, b, c, (j : Int)) t) m) j, ()), ()) (Nat.zero_le _) (by omega) (fun i _ hi => by
          unfold B_ShareI_1
          simp only [ltT hi, inc64 hi (show j < 2 ^ 62 by omega), cond_true]
          rfl) (by
          unfold B_ShareI_1
          simp only [ltF, cond_false])
        simp only [Bool.not_true, cond_false, and_self, if_true]
        refine (congrArg (fun z => Option.bind z _) (show iter B_ShareI_1 bigN _ = _ from key)).trans ?_
        simp only [Option.bind_some]
        rw [e]
        rfl
theorem s_ShareI : FTold Try.prog 177 shareS := walkedF (fs := fs) (ss := ss_ShareI) (loop := loops_ShareI) tysOk mixed fnsOk ssOk_ShareI 10 177 [lawD, F32, F32] [F32, .bool] rfl _ fun ((a, b, c, n), t, m) r h => (t_ShareI a b c n t m).trans (p_ShareI a b c n t m r h)
def yesL2G (_ : LT × Fl .f32 × Fl .f32) : Option Bool := some true
def yesL2S : FSpec := ⟨[lawD, F32, F32], [.bool], yesL2G⟩
end Go.Proofs.Ytdlcebiglolfjaa
