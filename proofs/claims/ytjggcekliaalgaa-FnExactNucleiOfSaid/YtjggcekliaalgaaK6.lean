/- The program's ShareAfter and HeldCurve answer as the reference's do, at all arguments. No condition. -/
import Derived.Test.YtjggcekliaalgaaK5
namespace Go.Proofs.Ytjggcekliaalgaa
open Go.Ab
def least (x : Fl .f32) : Bool := fin x && fge x (Fl.of .f32 0)
def leastG (x : Fl .f32) : Option Bool := some (least x)
def leastS : FSpec := ⟨[F32], [.bool], leastG⟩
def loops_least (_ _ _ : Nat) : Option LSpec := none
noncomputable def ss_least : List (Nat × FSpec) := [(102, finS)]
theorem ssOk_least : FTolds Try.prog ss_least := ⟨s_l01Finite, trivial⟩
noncomputable def Γ_least : Ctx := ctxOf Try.prog tys fs ss_least loops_least
noncomputable def d_least (x : Fl .f32) : Option (Bool) := Option.bind (finG x) fun (r0 : Bool) => (bif r0 then (some (fge x (Fl.of .f32 0))) else (some (false)))
theorem t_least (x : Fl .f32) : (fnT Γ_least 10 91 [F32] [.bool] x).den = d_least x := by kernel_rfl
theorem p_least (x : Fl .f32) (r : Bool) (h : leastG x = some r) : d_least x = some r := by
  refine Eq.trans ?_ h
  unfold d_least leastG least finG
  cases fin x <;> rfl
theorem s_least : FTold Try.prog 91 leastS := walkedF (fs := fs) (ss := ss_least) (loop := loops_least) tysOk mixed fnsOk ssOk_least 10 91 [F32] [.bool] rfl _ fun x r h => (t_least x).trans (p_least x r h)
def loops_aMass (_ _ _ : Nat) : Option LSpec := none
noncomputable def ss_aMass : List (Nat × FSpec) := [(106, finS)]
theorem ssOk_aMass : FTolds Try.prog ss_aMass := ⟨s_IsFinite, trivial⟩
noncomputable def Γ_aMass : Ctx := ctxOf Try.prog tys fs ss_aMass loops_aMass
noncomputable def d_aMass (x : Fl .f32) : Option (Bool) := Option.bind (finG x) fun (r0 : Bool) => (bif r0 then (some (fge x (Fl.of .f32 0))) else (some (false)))
theorem t_aMass (x : Fl .f32) : (fnT Γ_aMass 10 98 [F32] [.bool] x).den = d_aMass x := by kernel_rfl
theorem p_aMass (x : Fl .f32) (r : Bool) (h : leastG x = some r) : d_aMass x = some r := by
  refine Eq.trans ?_ h
  unfold d_aMass leastG least finG
  cases fin x <;> rfl
theorem s_aMass : FTold Try.prog 98 leastS := walkedF (fs := fs) (ss := ss_aMass) (loop := loops_aMass) tysOk mixed fnsOk ssOk_aMass 10 98 [F32] [.bool] rfl _ fun x r h => (t_aMass x).trans (p_aMass x r h)
theorem zero32 : fin (Fl.of .f32 0) = true ∧ val (Fl.of .f32 0) = 0 := by decide +kernel
theorem one32 : fin (Fl.of .f32 1065353216) = true ∧ val (Fl.of .f32 1065353216) = 1 := by decide +kernel
theorem least_nn {m : Fl .f32} (h : least m = true) : NN m := by
  unfold least at h
  rw [Bool.and_eq_true] at h
  intro _
  have := h.2
  rw [fge_val h.1 zero32.1, zero32.2] at this
  exact of_decide_eq_true this
theorem okL_of {x : LT} (h : okL x = true) : fin x.2.2.1 = true ∧ fgt x.2.2.1 (Fl.of .f32 0) = true ∧ 1 ≤ x.2.2.2 ∧ x.2.2.2 ≤ 4 := by
  unfold okL at h
  cases h1 : fin x.1 <;> cases h2 : fin x.2.1 <;> cases h3 : fgt x.2.1 (Fl.of .f32 0) <;> cases h4 : fin x.2.2.1 <;> cases h5 : fgt x.2.2.1 (Fl.of .f32 0) <;> simp only [h1, h2, h3, h4, h5, cond_true, cond_false, Bool.false_eq_true, Bool.and_eq_true, decide_eq_true_eq] at h
  exact ⟨rfl, rfl, h⟩
theorem speed_nn {x : LT} (h : okL x = true) (t : Fl .f32) : NN (speedF x t) := by
  obtain ⟨h1, h2, _⟩ := okL_of h
  refine NN.mul (fun _ => ?_) (expF_nn (expD_neg (NN.sq _)))
  rw [fgt_val h1 zero32.1, zero32.2] at h2
  exact Rat.le_of_lt (of_decide_eq_true h2)
/-- a power -/
def powN (x : Fl .f32) : Nat → Fl .f32
  | 0 => Fl.of .f32 1065353216
  | k + 1 => fmul (powN x k) x
theorem powN_nn {x : Fl .f32} (h : NN x) : ∀ k, NN (powN x k)
  | 0 => fun _ => by show (0 : Rat) ≤ val (Fl.of .f32 1065353216); rw [one32.2]; decide +kernel
  | k + 1 => NN.mul (powN_nn h k) h
def afterF (x : LT) (t m : Fl .f32) : Fl .f32 := fsub (Fl.of .f32 1065353216) (expF (fneg (powN (fmul (speedF x t) m) x.2.2.2.toNat)))
theorem after_exp {x : LT} {t m : Fl .f32} (h : okL x = true) (hm : least m = true) (k : Nat) : expG (fneg (powN (fmul (speedF x t) m) k)) = some (expF (fneg (powN (fmul (speedF x t) m) k))) :=
  expG_some (expD_neg (powN_nn (NN.mul (speed_nn h t) (least_nn hm)) k))
def aftPG (x : LT × Fl .f32 × Fl .f32) : Option (Fl .f32) := if okL x.1 = true ∧ least x.2.2 = true then some (afterF x.1 x.2.1 x.2.2) else none
def aftPS : FSpec := ⟨[.ptr lawD, F32, F32], [F32], aftPG⟩
def shareF (x : LT) (t m : Fl .f32) : Fl .f32 × Bool := if okL x = true ∧ fin t = true ∧ least m = true then (if fin (afterF x t m) = true then (afterF x t m, true) else (Fl.of .f32 0, false)) else (Fl.of .f32 0, false)
def shareG (x : LT × Fl .f32 × Fl .f32) : Option (Fl .f32 × Bool) := some (shareF x.1 x.2.1 x.2.2)
def shareS : FSpec := ⟨[lawD, F32, F32], [F32, .bool], shareG⟩
def yesL2G (_ : LT × Fl .f32 × Fl .f32) : Option Bool := some true
def yesL2S : FSpec := ⟨[lawD, F32, F32], [.bool], yesL2G⟩
end Go.Proofs.Ytjggcekliaalgaa
