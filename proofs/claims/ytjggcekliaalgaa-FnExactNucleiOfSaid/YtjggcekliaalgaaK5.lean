/- The program's SpeedAt and ShareAfter answer as the reference's do, at all arguments. No condition. -/
import Derived.Test.YtjggcekliaalgaaK3
import Derived.Test.YtjggcekliaalgaaLE
namespace Go.Proofs.Ytjggcekliaalgaa
open Go.Ab
abbrev lawD : DS := .agg [.flt .f32, .flt .f32, .flt .f32, .int .i64]
abbrev LT : Type := Fl .f32 × Fl .f32 × Fl .f32 × Int
def e64IG (x : Fl .f64) : Option (Fl .f64) := some (exp64 x)
def e64IS : FSpec := ⟨[F64], [F64], e64IG⟩
def e64SG (x : Fl .f64) : Option (Fl .f64) := some (e64F x)
def e64SS : FSpec := ⟨[F64], [F64], e64SG⟩
def L_exp64I_1 : LSpec := ⟨[3, 4, 5], ⟨Shs.at 26 [(3, (.flt FloatKind.f64)), (4, (.flt FloatKind.f64)), (5, (.int IntKind.i64))], []⟩, [⟨.ext 0, [4], ⟨Shs.at 26 [(4, (.flt FloatKind.f64))], []⟩⟩], fun _ => bigN⟩
def L_exp64I_2 : LSpec := ⟨[4, 19], ⟨Shs.at 26 [(4, (.flt FloatKind.f64)), (19, (.int IntKind.i64))], []⟩, [⟨.ext 2, [4], ⟨Shs.at 26 [(4, (.flt FloatKind.f64))], []⟩⟩], fun _ => bigN⟩
def loops_exp64I (f k n : Nat) : Option LSpec := bif (Nat.beq f 204 && Nat.beq k 3 && Nat.beq n 1) then some L_exp64I_1 else bif (Nat.beq f 204 && Nat.beq k 7 && Nat.beq n 1) then some L_exp64I_2 else none
abbrev S_exp64I_1 : Type := (((Fl .f64) × ((Fl .f64) × (Int × Unit))) × Unit)
abbrev R_exp64I_1 : Type := (((Fl .f64) × Unit) × Unit)
noncomputable def B_exp64I_1 (y : S_exp64I_1) : Option (S_exp64I_1 ⊕ R_exp64I_1) := bif decide (y.1.2.2.1 ≥ 1) then (some (Sum.inl (((y.1.1, (fadd (Fl.of .f64 4607182418800017408) (fdiv (fmul y.1.1 y.1.2.1) (fofInt .f64 y.1.2.2.1)), (IntKind.i64.wrap (y.1.2.2.1 - 1), ()))), ())))) else (some (Sum.inr (((y.1.2.1, ()), ()))))
abbrev S_exp64I_2 : Type := (((Fl .f64) × (Int × Unit)) × Unit)
abbrev R_exp64I_2 : Type := (((Fl .f64) × Unit) × Unit)
noncomputable def B_exp64I_2 (y : S_exp64I_2) : Option (S_exp64I_2 ⊕ R_exp64I_2) := bif decide (y.1.2.1 < 8) then (some (Sum.inl (((fmul y.1.1 y.1.1, (IntKind.i64.wrap (y.1.2.1 + 1), ())), ())))) else (some (Sum.inr (((y.1.1, ()), ()))))
noncomputable def ss_exp64I : List (Nat × FSpec) := []
theorem ssOk_exp64I : FTolds Try.prog ss_exp64I := trivial
noncomputable def Γ_exp64I : Ctx := ctxOf Try.prog tys fs ss_exp64I loops_exp64I
noncomputable def d_exp64I (x : Fl .f64) : Option ((Fl .f64)) := Option.bind (iter B_exp64I_1 bigN (((fdiv x (Fl.of .f64 4643211215818981376), (Fl.of .f64 4607182418800017408, (12, ()))), ()))) fun (r0 : (((Fl .f64) × Unit) × Unit)) => (Option.bind (iter B_exp64I_2 bigN (((r0.1.1, (0, ())), ()))) fun (r1 : (((Fl .f64) × Unit) × Unit)) => (some (r1.1.1)))
theorem t_exp64I (x : Fl .f64) : (fnT Γ_exp64I 10 204 [F64] [F64] x).den = d_exp64I x := by kernel_rfl
theorem p_exp64I (x : Fl .f64) (r : (Fl .f64)) (h : e64IG x = some r) : d_exp64I x = some r := by
  exact (exp_loops x).trans h
theorem s_exp64I : FTold Try.prog 204 e64IS := walkedF (fs := fs) (ss := ss_exp64I) (loop := loops_exp64I) tysOk mixed fnsOk ssOk_exp64I 10 204 [F64] [F64] rfl _ fun x r h => (t_exp64I x).trans (p_exp64I x r h)
def L_exp64S_1 : LSpec := ⟨[3, 4, 5], ⟨Shs.at 37 [(3, (.flt FloatKind.f64)), (4, (.flt FloatKind.f64)), (5, (.int IntKind.i64))], []⟩, [⟨.ext 0, [4], ⟨Shs.at 37 [(4, (.flt FloatKind.f64))], []⟩⟩], fun _ => bigN⟩
def L_exp64S_2 : LSpec := ⟨[4, 6], ⟨Shs.at 37 [(4, (.flt FloatKind.f64)), (6, (.int IntKind.i64))], []⟩, [⟨.ext 2, [4], ⟨Shs.at 37 [(4, (.flt FloatKind.f64))], []⟩⟩], fun _ => bigN⟩
def loops_exp64S (f k n : Nat) : Option LSpec := bif (Nat.beq f 187 && Nat.beq k 10 && Nat.beq n 1) then some L_exp64S_1 else bif (Nat.beq f 187 && Nat.beq k 14 && Nat.beq n 1) then some L_exp64S_2 else none
abbrev S_exp64S_1 : Type := (((Fl .f64) × ((Fl .f64) × (Int × Unit))) × Unit)
abbrev R_exp64S_1 : Type := (((Fl .f64) × Unit) × Unit)
noncomputable def B_exp64S_1 (y : S_exp64S_1) : Option (S_exp64S_1 ⊕ R_exp64S_1) := bif decide (y.1.2.2.1 ≥ 1) then (some (Sum.inl (((y.1.1, (fadd (Fl.of .f64 4607182418800017408) (fdiv (fmul y.1.1 y.1.2.1) (fofInt .f64 y.1.2.2.1)), (IntKind.i64.wrap (y.1.2.2.1 - 1), ()))), ())))) else (some (Sum.inr (((y.1.2.1, ()), ()))))
abbrev S_exp64S_2 : Type := (((Fl .f64) × (Int × Unit)) × Unit)
abbrev R_exp64S_2 : Type := (((Fl .f64) × Unit) × Unit)
noncomputable def B_exp64S_2 (y : S_exp64S_2) : Option (S_exp64S_2 ⊕ R_exp64S_2) := bif decide (y.1.2.1 < 8) then (some (Sum.inl (((fmul y.1.1 y.1.1, (IntKind.i64.wrap (y.1.2.1 + 1), ())), ())))) else (some (Sum.inr (((y.1.1, ()), ()))))
noncomputable def ss_exp64S : List (Nat × FSpec) := [(195, from64S)]
theorem ssOk_exp64S : FTolds Try.prog ss_exp64S := ⟨s_from64, trivial⟩
noncomputable def Γ_exp64S : Ctx := ctxOf Try.prog tys fs ss_exp64S loops_exp64S
noncomputable def d_exp64S (x : Fl .f64) : Option ((Fl .f64)) := bif fne x x then (some (x)) else (bif fgt x (Fl.of .f64 4641240890982006784) then (bif true then (Option.bind (ofBits .f64 9218868437227405312) fun (r0 : (Fl .f64)) => (some (r0))) else (Option.bind (ofBits .f64 18442240474082181120) fun (r1 : (Fl .f64)) => (some (r1)))) else (bif flt x (Fl.of .f64 13864612927836782592) then (some (Fl.of .f64 0)) else (Option.bind (iter B_exp64S_1 bigN (((fdiv x (Fl.of .f64 4643211215818981376), (Fl.of .f64 4607182418800017408, (12, ()))), ()))) fun (r2 : (((Fl .f64) × Unit) × Unit)) => (Option.bind (iter B_exp64S_2 bigN (((r2.1.1, (0, ())), ()))) fun (r3 : (((Fl .f64) × Unit) × Unit)) => (some (r3.1.1))))))
theorem t_exp64S (x : Fl .f64) : (fnT Γ_exp64S 10 187 [F64] [F64] x).den = d_exp64S x := by kernel_rfl
theorem p_exp64S (x : Fl .f64) (r : (Fl .f64)) (h : e64SG x = some r) : d_exp64S x = some r := by
  refine Eq.trans ?_ h
  have g := exp_loops x
  have i1 : ofBits .f64 9218868437227405312 = some (Fl.of .f64 9218868437227405312) := by decide +kernel
  unfold d_exp64S e64SG e64F
  rw [show (Option.bind (iter B_exp64S_1 bigN (((fdiv x (Fl.of .f64 4643211215818981376), (Fl.of .f64 4607182418800017408, (12, ()))), ()))) fun r0 => (Option.bind (iter B_exp64S_2 bigN (((r0.1.1, (0, ())), ()))) fun r1 => (some (r1.1.1)))) = some (exp64 x) from g, i1]
  cases fne x x <;> cases fgt x (Fl.of .f64 4641240890982006784) <;> cases flt x (Fl.of .f64 13864612927836782592) <;> rfl
theorem s_exp64S : FTold Try.prog 187 e64SS := walkedF (fs := fs) (ss := ss_exp64S) (loop := loops_exp64S) tysOk mixed fnsOk ssOk_exp64S 10 187 [F64] [F64] rfl _ fun x r h => (t_exp64S x).trans (p_exp64S x r h)
def narG (x : Fl .f64) : Option (Fl .f32) := fconv .f64 .f32 x
def narS : FSpec := ⟨[F64], [F32], narG⟩
def loops_narrow (_ _ _ : Nat) : Option LSpec := none
noncomputable def ss_narrow : List (Nat × FSpec) := []
theorem ssOk_narrow : FTolds Try.prog ss_narrow := trivial
noncomputable def Γ_narrow : Ctx := ctxOf Try.prog tys fs ss_narrow loops_narrow
noncomputable def d_narrow (x : Fl .f64) : Option ((Fl .f32)) := Option.bind (fconv .f64 .f32 x) fun (r0 : (Fl .f32)) => (some (r0))
theorem t_narrow (x : Fl .f64) : (fnT Γ_narrow 10 162 [F64] [F32] x).den = d_narrow x := by kernel_rfl
theorem p_narrow (x : Fl .f64) (r : (Fl .f32)) (h : narG x = some r) : d_narrow x = some r := by
  unfold d_narrow
  rw [show fconv .f64 .f32 x = some r from h]; rfl
theorem s_narrow : FTold Try.prog 162 narS := walkedF (fs := fs) (ss := ss_narrow) (loop := loops_narrow) tysOk mixed fnsOk ssOk_narrow 10 162 [F64] [F32] rfl _ fun x r h => (t_narrow x).trans (p_narrow x r h)
def expG (x : Fl .f32) : Option (Fl .f32) := if expD x then some (expF x) else none
def expS : FSpec := ⟨[F32], [F32], expG⟩
theorem expG_some {x : Fl .f32} (h : expD x) : expG x = some (expF x) := if_pos h
def loops_expI (_ _ _ : Nat) : Option LSpec := none
noncomputable def ss_expI : List (Nat × FSpec) := [(204, e64IS), (195, from64S)]
theorem ssOk_expI : FTolds Try.prog ss_expI := ⟨s_exp64I, s_from64, trivial⟩
noncomputable def Γ_expI : Ctx := ctxOf Try.prog tys fs ss_expI loops_expI
noncomputable def d_expI (x : Fl .f32) : Option ((Fl .f32)) := bif fgt x (Fl.of .f32 1128792064) then (bif true then (Option.bind (ofBits .f64 9218868437227405312) fun (r0 : (Fl .f64)) => (Option.bind (fconv .f64 .f32 r0) fun (r1 : (Fl .f32)) => (some (r1)))) else (Option.bind (ofBits .f64 18442240474082181120) fun (r2 : (Fl .f64)) => (Option.bind (fconv .f64 .f32 r2) fun (r3 : (Fl .f32)) => (some (r3))))) else (bif flt x (Fl.of .f32 3276275712) then (some (Fl.of .f32 0)) else (Option.bind (e64IG (fwide x)) fun (r4 : (Fl .f64)) => (Option.bind (fconv .f64 .f32 r4) fun (r5 : (Fl .f32)) => (some (r5)))))
theorem t_expI (x : Fl .f32) : (fnT Γ_expI 10 189 [F32] [F32] x).den = d_expI x := by kernel_rfl
theorem p_expI (x : Fl .f32) (r : (Fl .f32)) (h : expG x = some r) : d_expI x = some r := by
  obtain ⟨hD, rfl⟩ := if_some (show (if expD x then some (expF x) else none) = some r from h)
  have i1 : ofBits .f64 9218868437227405312 = some (Fl.of .f64 9218868437227405312) := by decide +kernel
  have i2 : fconv .f64 .f32 (Fl.of .f64 9218868437227405312) = some (Fl.of .f32 2139095040) := by decide +kernel
  unfold d_expI e64IG
  simp only [i1, i2, Option.bind_some, cond_true]
  by_cases h1 : fgt x (Fl.of .f32 1128792064) = true
  · rw [h1]; unfold expF; rw [if_pos h1]; rfl
  · by_cases h2 : flt x (Fl.of .f32 3276275712) = true
    · rw [Bool.eq_false_iff.2 h1, h2]; unfold expF; rw [if_neg h1, if_pos h2]; rfl
    · rw [Bool.eq_false_iff.2 h1, Bool.eq_false_iff.2 h2, (exp_conv hD h1 h2).1]; rfl
theorem s_expI : FTold Try.prog 189 expS := walkedF (fs := fs) (ss := ss_expI) (loop := loops_expI) tysOk mixed fnsOk ssOk_expI 10 189 [F32] [F32] rfl _ fun x r h => (t_expI x).trans (p_expI x r h)
def loops_expS (_ _ _ : Nat) : Option LSpec := none
noncomputable def ss_expS : List (Nat × FSpec) := [(187, e64SS), (162, narS)]
theorem ssOk_expS : FTolds Try.prog ss_expS := ⟨s_exp64S, s_narrow, trivial⟩
noncomputable def Γ_expS : Ctx := ctxOf Try.prog tys fs ss_expS loops_expS
noncomputable def d_expS (x : Fl .f32) : Option ((Fl .f32)) := Option.bind (e64SG (fwide x)) fun (r0 : (Fl .f64)) => (Option.bind (narG r0) fun (r1 : (Fl .f32)) => (some (r1)))
theorem t_expS (x : Fl .f32) : (fnT Γ_expS 10 154 [F32] [F32] x).den = d_expS x := by kernel_rfl
theorem p_expS (x : Fl .f32) (r : (Fl .f32)) (h : expG x = some r) : d_expS x = some r := by
  obtain ⟨hD, rfl⟩ := if_some (show (if expD x then some (expF x) else none) = some r from h)
  unfold d_expS e64SG narG
  simp only [Option.bind_some, exp_wide hD]
theorem s_expS : FTold Try.prog 154 expS := walkedF (fs := fs) (ss := ss_expS) (loop := loops_expS) tysOk mixed fnsOk ssOk_expS 10 154 [F32] [F32] rfl _ fun x r h => (t_expS x).trans (p_expS x r h)
def lawCG (x : LT) : Option LT := some x
def lawCS : FSpec := ⟨[lawD], [lawD], lawCG⟩
def loops_toLaw (_ _ _ : Nat) : Option LSpec := none
noncomputable def ss_toLaw : List (Nat × FSpec) := []
theorem ssOk_toLaw : FTolds Try.prog ss_toLaw := trivial
noncomputable def Γ_toLaw : Ctx := ctxOf Try.prog tys fs ss_toLaw loops_toLaw
noncomputable def d_toLaw (a b c : Fl .f32) (n : Int) : Option (((Fl .f32) × ((Fl .f32) × ((Fl .f32) × Int)))) := some ((a, (b, (c, n))))
theorem t_toLaw (a b c : Fl .f32) (n : Int) : (fnT Γ_toLaw 10 31 [lawD] [lawD] (a, b, c, n)).den = d_toLaw a b c n := by kernel_rfl
theorem p_toLaw (a b c : Fl .f32) (n : Int) (r : ((Fl .f32) × ((Fl .f32) × ((Fl .f32) × Int)))) (h : lawCG (a, b, c, n) = some r) : d_toLaw a b c n = some r := by
  exact h
theorem s_toLaw : FTold Try.prog 31 lawCS := walkedF (fs := fs) (ss := ss_toLaw) (loop := loops_toLaw) tysOk mixed fnsOk ssOk_toLaw 10 31 [lawD] [lawD] rfl _ fun (a, b, c, n) r h => (t_toLaw a b c n).trans (p_toLaw a b c n r h)
def okL (x : LT) : Bool := bif fin x.1 then (bif fin x.2.1 then (bif fgt x.2.1 (Fl.of .f32 0) then (bif fin x.2.2.1 then (bif fgt x.2.2.1 (Fl.of .f32 0) then (decide (1 ≤ x.2.2.2) && decide (x.2.2.2 ≤ 4)) else false) else false) else false) else false) else false
def okLG (x : LT) : Option Bool := some (okL x)
def okLS : FSpec := ⟨[lawD], [.bool], okLG⟩
def okPG (x : LT) : Option Bool := some (okL x)
def okPS : FSpec := ⟨[.ptr lawD], [.bool], okPG⟩
def loops_lawI (_ _ _ : Nat) : Option LSpec := none
noncomputable def ss_lawI : List (Nat × FSpec) := [(106, finS), (84, withinS)]
theorem ssOk_lawI : FTolds Try.prog ss_lawI := ⟨s_IsFinite, s_within, trivial⟩
noncomputable def Γ_lawI : Ctx := ctxOf Try.prog tys fs ss_lawI loops_lawI
noncomputable def d_lawI (a b c : Fl .f32) (n : Int) : Option (Bool) := Option.bind (finG a) fun (r0 : Bool) => (bif r0 then (Option.bind (finG b) fun (r1 : Bool) => (bif r1 then (bif fgt b (Fl.of .f32 0) then (Option.bind (finG c) fun (r2 : Bool) => (bif r2 then (bif fgt c (Fl.of .f32 0) then (Option.bind (withinG (n, 1, 4)) fun (r3 : Bool) => (some (r3))) else (some (false))) else (some (false)))) else (some (false))) else (some (false)))) else (some (false)))
theorem t_lawI (a b c : Fl .f32) (n : Int) : (fnT Γ_lawI 10 97 [lawD] [.bool] (a, b, c, n)).den = d_lawI a b c n := by kernel_rfl
theorem p_lawI (a b c : Fl .f32) (n : Int) (r : Bool) (h : okLG (a, b, c, n) = some r) : d_lawI a b c n = some r := by
  refine Eq.trans ?_ h
  unfold d_lawI okLG okL finG withinG
  simp only [Option.bind_some]
  cases fin a <;> cases fin b <;> cases fgt b (Fl.of .f32 0) <;> cases fin c <;> cases fgt c (Fl.of .f32 0) <;> rfl
theorem s_lawI : FTold Try.prog 97 okLS := walkedF (fs := fs) (ss := ss_lawI) (loop := loops_lawI) tysOk mixed fnsOk ssOk_lawI 10 97 [lawD] [.bool] rfl _ fun (a, b, c, n) r h => (t_lawI a b c n).trans (p_lawI a b c n r h)
def loops_lawS (_ _ _ : Nat) : Option LSpec := none
noncomputable def ss_lawS : List (Nat × FSpec) := [(102, finS), (77, withinS)]
theorem ssOk_lawS : FTolds Try.prog ss_lawS := ⟨s_l01Finite, s_l00In, trivial⟩
noncomputable def Γ_lawS : Ctx := ctxOf Try.prog tys fs ss_lawS loops_lawS
noncomputable def d_lawS (a b c : Fl .f32) (n : Int) : Option (Bool) := Option.bind (finG a) fun (r0 : Bool) => (bif r0 then (Option.bind (finG b) fun (r1 : Bool) => (bif r1 then (bif fgt b (Fl.of .f32 0) then (Option.bind (finG c) fun (r2 : Bool) => (bif r2 then (bif fgt c (Fl.of .f32 0) then (Option.bind (withinG (n, 1, 4)) fun (r3 : Bool) => (some (r3))) else (some (false))) else (some (false)))) else (some (false))) else (some (false)))) else (some (false)))
theorem t_lawS (a b c : Fl .f32) (n : Int) : (fnT Γ_lawS 10 90 [.ptr lawD] [.bool] (a, b, c, n)).den = d_lawS a b c n := by kernel_rfl
theorem p_lawS (a b c : Fl .f32) (n : Int) (r : Bool) (h : okPG (a, b, c, n) = some r) : d_lawS a b c n = some r := by
  refine Eq.trans ?_ h
  unfold d_lawS okPG okL finG withinG
  simp only [Option.bind_some]
  cases fin a <;> cases fin b <;> cases fgt b (Fl.of .f32 0) <;> cases fin c <;> cases fgt c (Fl.of .f32 0) <;> rfl
theorem s_lawS : FTold Try.prog 90 okPS := walkedF (fs := fs) (ss := ss_lawS) (loop := loops_lawS) tysOk mixed fnsOk ssOk_lawS 10 90 [.ptr lawD] [.bool] rfl _ fun (a, b, c, n) r h => (t_lawS a b c n).trans (p_lawS a b c n r h)
def speedF (x : LT) (t : Fl .f32) : Fl .f32 := fmul x.2.2.1 (expF (fneg (fmul (fdiv (fsub t x.1) x.2.1) (fdiv (fsub t x.1) x.2.1))))
theorem speed_exp (x : Fl .f32) : expG (fneg (fmul x x)) = some (expF (fneg (fmul x x))) := expG_some (expD_neg (NN.sq x))
def spdG (x : LT × Fl .f32) : Option (Fl .f32) := some (speedF x.1 x.2)
def spdS : FSpec := ⟨[lawD, F32], [F32], spdG⟩
def spdPG (x : LT × Fl .f32) : Option (Fl .f32) := some (speedF x.1 x.2)
def spdPS : FSpec := ⟨[.ptr lawD, F32], [F32], spdPG⟩
def loops_speedS (_ _ _ : Nat) : Option LSpec := none
noncomputable def ss_speedS : List (Nat × FSpec) := [(154, expS)]
theorem ssOk_speedS : FTolds Try.prog ss_speedS := ⟨s_expS, trivial⟩
noncomputable def Γ_speedS : Ctx := ctxOf Try.prog tys fs ss_speedS loops_speedS
noncomputable def d_speedS (a b c : Fl .f32) (n : Int) (t : Fl .f32) : Option ((Fl .f32)) := Option.bind (expG (fneg (fmul (fdiv (fsub t a) b) (fdiv (fsub t a) b)))) fun (r0 : (Fl .f32)) => (some (fmul c r0))
theorem t_speedS (a b c : Fl .f32) (n : Int) (t : Fl .f32) : (fnT Γ_speedS 10 94 [.ptr lawD, F32] [F32] ((a, b, c, n), t)).den = d_speedS a b c n t := by kernel_rfl
theorem p_speedS (a b c : Fl .f32) (n : Int) (t : Fl .f32) (r : (Fl .f32)) (h : spdPG ((a, b, c, n), t) = some r) : d_speedS a b c n t = some r := by
  refine Eq.trans ?_ h
  unfold d_speedS spdPG speedF
  rw [speed_exp]; rfl
theorem s_speedS : FTold Try.prog 94 spdPS := walkedF (fs := fs) (ss := ss_speedS) (loop := loops_speedS) tysOk mixed fnsOk ssOk_speedS 10 94 [.ptr lawD, F32] [F32] rfl _ fun ((a, b, c, n), t) r h => (t_speedS a b c n t).trans (p_speedS a b c n t r h)
def loops_speedI (_ _ _ : Nat) : Option LSpec := none
noncomputable def ss_speedI : List (Nat × FSpec) := [(189, expS)]
theorem ssOk_speedI : FTolds Try.prog ss_speedI := ⟨s_expI, trivial⟩
noncomputable def Γ_speedI : Ctx := ctxOf Try.prog tys fs ss_speedI loops_speedI
noncomputable def d_speedI (a b c : Fl .f32) (n : Int) (t : Fl .f32) : Option ((Fl .f32)) := Option.bind (expG (fneg (fmul (fdiv (fsub t a) b) (fdiv (fsub t a) b)))) fun (r0 : (Fl .f32)) => (some (fmul c r0))
theorem t_speedI (a b c : Fl .f32) (n : Int) (t : Fl .f32) : (fnT Γ_speedI 10 158 [lawD, F32] [F32] ((a, b, c, n), t)).den = d_speedI a b c n t := by kernel_rfl
theorem p_speedI (a b c : Fl .f32) (n : Int) (t : Fl .f32) (r : (Fl .f32)) (h : spdG ((a, b, c, n), t) = some r) : d_speedI a b c n t = some r := by
  refine Eq.trans ?_ h
  unfold d_speedI spdG speedF
  rw [speed_exp]; rfl
theorem s_speedI : FTold Try.prog 158 spdS := walkedF (fs := fs) (ss := ss_speedI) (loop := loops_speedI) tysOk mixed fnsOk ssOk_speedI 10 158 [lawD, F32] [F32] rfl _ fun ((a, b, c, n), t) r h => (t_speedI a b c n t).trans (p_speedI a b c n t r h)
theorem told_tell5 (x : Fl .f32) : toldG x = some (if fin x = true then (x, true) else (Fl.of .f32 0, false)) := rfl
def SpeedF (x : LT) (t : Fl .f32) : Fl .f32 × Bool := if okL x = true ∧ fin t = true then (if fin (speedF x t) = true then (speedF x t, true) else (Fl.of .f32 0, false)) else (Fl.of .f32 0, false)
def SpeedG (x : LT × Fl .f32) : Option (Fl .f32 × Bool) := some (SpeedF x.1 x.2)
def SpeedS : FSpec := ⟨[lawD, F32], [F32, .bool], SpeedG⟩
def loops_SpeedI (_ _ _ : Nat) : Option LSpec := none
noncomputable def ss_SpeedI : List (Nat × FSpec) := [(97, okLS), (106, finS), (158, spdS), (157, toldS)]
theorem ssOk_SpeedI : FTolds Try.prog ss_SpeedI := ⟨s_lawI, s_IsFinite, s_speedI, s_told, trivial⟩
noncomputable def Γ_SpeedI : Ctx := ctxOf Try.prog tys fs ss_SpeedI loops_SpeedI
noncomputable def d_SpeedI (a b c : Fl .f32) (n : Int) (t : Fl .f32) : Option (((Fl .f32) × Bool)) := Option.bind (okLG (a, b, c, n)) fun (r0 : Bool) => (bif !r0 then (some ((Fl.of .f32 0, false))) else (Option.bind (finG t) fun (r1 : Bool) => (bif !r1 then (some ((Fl.of .f32 0, false))) else (Option.bind (spdG ((a, b, c, n), t)) fun (r2 : (Fl .f32)) => (Option.bind (toldG r2) fun (r3 : ((Fl .f32) × Bool)) => (some ((r3.1, r3.2))))))))
theorem t_SpeedI (a b c : Fl .f32) (n : Int) (t : Fl .f32) : (fnT Γ_SpeedI 10 100 [lawD, F32] [F32, .bool] ((a, b, c, n), t)).den = d_SpeedI a b c n t := by kernel_rfl
theorem p_SpeedI (a b c : Fl .f32) (n : Int) (t : Fl .f32) (r : ((Fl .f32) × Bool)) (h : SpeedG ((a, b, c, n), t) = some r) : d_SpeedI a b c n t = some r := by
  refine Eq.trans ?_ h
  unfold d_SpeedI SpeedG SpeedF okLG finG spdG
  simp only [Option.bind_some, told_tell5]
  cases okL (a, b, c, n) <;> cases fin t <;> rfl
theorem s_SpeedI : FTold Try.prog 100 SpeedS := walkedF (fs := fs) (ss := ss_SpeedI) (loop := loops_SpeedI) tysOk mixed fnsOk ssOk_SpeedI 10 100 [lawD, F32] [F32, .bool] rfl _ fun ((a, b, c, n), t) r h => (t_SpeedI a b c n t).trans (p_SpeedI a b c n t r h)
def yesLG (_ : LT × Fl .f32) : Option Bool := some true
def yesLS : FSpec := ⟨[lawD, F32], [.bool], yesLG⟩
end Go.Proofs.Ytjggcekliaalgaa
