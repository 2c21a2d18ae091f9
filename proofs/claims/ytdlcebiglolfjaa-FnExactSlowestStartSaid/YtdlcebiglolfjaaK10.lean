/- The program's LogNumber answers as the reference's does, at all arguments. No condition. -/
import Derived.Test.YtdlcebiglolfjaaK5
import Derived.Test.YtdlcebiglolfjaaLF
namespace Go.Proofs.Ytdlcebiglolfjaa
open Go.Ab
def lgG (x : Fl .f32) : Option (Fl .f64) := if lgD x then some (log64 (fwide x)) else none
def lgS : FSpec := ⟨[F32], [F64], lgG⟩
def lwG (x : Fl .f64) : Option (Fl .f64) := if lwD x then some (lwF x) else none
def lwS : FSpec := ⟨[F64], [F64], lwG⟩
def lnG (x : Fl .f32) : Option (Fl .f32) := some (lnF x)
def lnS : FSpec := ⟨[F32], [F32], lnG⟩
def L_logI_1 : LSpec := ⟨[0, 3], ⟨Shs.at 46 [(0, (.flt FloatKind.f64)), (3, (.flt FloatKind.f64))], []⟩, [⟨.ext 0, [0, 3], ⟨Shs.at 46 [(0, (.flt FloatKind.f64)), (3, (.flt FloatKind.f64))], []⟩⟩], fun _ => bigN⟩
def L_logI_2 : LSpec := ⟨[0, 3], ⟨Shs.at 46 [(0, (.flt FloatKind.f64)), (3, (.flt FloatKind.f64))], []⟩, [⟨.ext 2, [0, 3], ⟨Shs.at 46 [(0, (.flt FloatKind.f64)), (3, (.flt FloatKind.f64))], []⟩⟩], fun _ => bigN⟩
def L_logI_3 : LSpec := ⟨[3, 4, 5, 6, 7], ⟨Shs.at 46 [(3, (.flt FloatKind.f64)), (4, (.flt FloatKind.f64)), (5, (.flt FloatKind.f64)), (6, (.flt FloatKind.f64)), (7, (.int IntKind.i64))], []⟩, [⟨.ext 4, [3, 4, 6], ⟨Shs.at 46 [(3, (.flt FloatKind.f64)), (4, (.flt FloatKind.f64)), (6, (.flt FloatKind.f64))], []⟩⟩], fun _ => bigN⟩
def loops_logI (f k n : Nat) : Option LSpec := bif (Nat.beq f 195 && Nat.beq k 2 && Nat.beq n 1030) then some L_logI_1 else bif (Nat.beq f 195 && Nat.beq k 4 && Nat.beq n 1030) then some L_logI_2 else bif (Nat.beq f 195 && Nat.beq k 9 && Nat.beq n 1030) then some L_logI_3 else none
abbrev S_logI_1 : Type := (((Fl .f64) × ((Fl .f64) × Unit)) × Unit)
abbrev R_logI_1 : Type := (((Fl .f64) × ((Fl .f64) × Unit)) × Unit)
noncomputable def B_logI_1 (y : S_logI_1) : Option (S_logI_1 ⊕ R_logI_1) := bif fge y.1.1 (Fl.of .f64 4609434218613702656) then (some (Sum.inl (((fdiv y.1.1 (Fl.of .f64 4611686018427387904), (fadd y.1.2.1 (Fl.of .f64 4607182418800017408), ())), ())))) else (some (Sum.inr (((y.1.1, (y.1.2.1, ())), ()))))
abbrev S_logI_2 : Type := (((Fl .f64) × ((Fl .f64) × Unit)) × Unit)
abbrev R_logI_2 : Type := (((Fl .f64) × ((Fl .f64) × Unit)) × Unit)
noncomputable def B_logI_2 (y : S_logI_2) : Option (S_logI_2 ⊕ R_logI_2) := bif flt y.1.1 (Fl.of .f64 4604930618986332160) then (some (Sum.inl (((fmul y.1.1 (Fl.of .f64 4611686018427387904), (fsub y.1.2.1 (Fl.of .f64 4607182418800017408), ())), ())))) else (some (Sum.inr (((y.1.1, (y.1.2.1, ())), ()))))
abbrev S_logI_3 : Type := (((Fl .f64) × ((Fl .f64) × ((Fl .f64) × ((Fl .f64) × (Int × Unit))))) × Unit)
abbrev R_logI_3 : Type := (((Fl .f64) × ((Fl .f64) × ((Fl .f64) × Unit))) × Unit)
noncomputable def B_logI_3 (y : S_logI_3) : Option (S_logI_3 ⊕ R_logI_3) := bif decide (y.1.2.2.2.2.1 ≥ 1) then (some (Sum.inl (((y.1.1, (y.1.2.1, (y.1.2.2.1, (fadd (fdiv (Fl.of .f64 4607182418800017408) (fofInt .f64 y.1.2.2.2.2.1)) (fmul y.1.2.2.1 y.1.2.2.2.1), (IntKind.i64.wrap (y.1.2.2.2.2.1 - 2), ()))))), ())))) else (some (Sum.inr (((y.1.1, (y.1.2.1, (y.1.2.2.2.1, ()))), ()))))
noncomputable def ss_logI : List (Nat × FSpec) := []
theorem ssOk_logI : FTolds Try.prog ss_logI := trivial
noncomputable def Γ_logI : Ctx := ctxOf Try.prog tys fs ss_logI loops_logI
noncomputable def d_logI (x : Fl .f32) : Option ((Fl .f64)) := Option.bind (iter B_logI_1 bigN (((fwide x, (Fl.of .f64 0, ())), ()))) fun (r0 : (((Fl .f64) × ((Fl .f64) × Unit)) × Unit)) => (Option.bind (iter B_logI_2 bigN (((r0.1.1, (r0.1.2.1, ())), ()))) fun (r1 : (((Fl .f64) × ((Fl .f64) × Unit)) × Unit)) => (Option.bind (iter B_logI_3 bigN (((r1.1.2.1, (fdiv (fsub r1.1.1 (Fl.of .f64 4607182418800017408)) (fadd r1.1.1 (Fl.of .f64 4607182418800017408)), (fmul (fdiv (fsub r1.1.1 (Fl.of .f64 4607182418800017408)) (fadd r1.1.1 (Fl.of .f64 4607182418800017408))) (fdiv (fsub r1.1.1 (Fl.of .f64 4607182418800017408)) (fadd r1.1.1 (Fl.of .f64 4607182418800017408))), (Fl.of .f64 0, (25, ()))))), ()))) fun (r2 : (((Fl .f64) × ((Fl .f64) × ((Fl .f64) × Unit))) × Unit)) => (some (fadd (fmul (Fl.of .f64 4611686018427387904) (fmul r2.1.2.1 r2.1.2.2.1)) (fmul r2.1.1 (Fl.of .f64 4604418534313441775))))))
theorem t_logI (x : Fl .f32) : (fnT Γ_logI 10 174 [F32] [F64] x).den = d_logI x := by kernel_rfl
theorem p_logI (x : Fl .f32) (r : (Fl .f64)) (h : lgG x = some r) : d_logI x = some r := by
  obtain ⟨⟨hf, hp⟩, rfl⟩ := if_some (show (if lgD x then some (log64 (fwide x)) else none) = some r from h)
  have hw := fin_wide' hf
  have p := pos32 hf hp
  rw [← val_wide hf] at p
  obtain ⟨⟨g1, g2⟩, ⟨g3, g4⟩, _⟩ := log64_in hw 149 128 (by omega) (by omega) (by omega) p.1 p.2
  exact log_flt g1 g2 g3 g4
theorem s_logI : FTold Try.prog 174 lgS := walkedF (fs := fs) (ss := ss_logI) (loop := loops_logI) tysOk mixed fnsOk ssOk_logI 10 174 [F32] [F64] rfl _ fun x r h => (t_logI x).trans (p_logI x r h)
def L_logW_1 : LSpec := ⟨[0, 3], ⟨Shs.at 64 [(0, (.flt FloatKind.f64)), (3, (.int IntKind.i64))], []⟩, [⟨.ext 1, [0, 3], ⟨Shs.at 64 [(0, (.flt FloatKind.f64)), (3, (.int IntKind.i64))], []⟩⟩], fun _ => bigN⟩
def L_logW_2 : LSpec := ⟨[0, 3], ⟨Shs.at 64 [(0, (.flt FloatKind.f64)), (3, (.int IntKind.i64))], []⟩, [⟨.ext 3, [0, 3], ⟨Shs.at 64 [(0, (.flt FloatKind.f64)), (3, (.int IntKind.i64))], []⟩⟩], fun _ => bigN⟩
def L_logW_3 : LSpec := ⟨[3, 4, 5, 6, 7], ⟨Shs.at 64 [(3, (.int IntKind.i64)), (4, (.flt FloatKind.f64)), (5, (.flt FloatKind.f64)), (6, (.flt FloatKind.f64)), (7, (.int IntKind.i64))], []⟩, [⟨.ext 5, [3, 4, 6], ⟨Shs.at 64 [(3, (.int IntKind.i64)), (4, (.flt FloatKind.f64)), (6, (.flt FloatKind.f64))], []⟩⟩], fun _ => bigN⟩
def loops_logW (f k n : Nat) : Option LSpec := bif (Nat.beq f 194 && Nat.beq k 8 && Nat.beq n 1) then some L_logW_1 else bif (Nat.beq f 194 && Nat.beq k 11 && Nat.beq n 1) then some L_logW_2 else bif (Nat.beq f 194 && Nat.beq k 18 && Nat.beq n 1) then some L_logW_3 else none
abbrev S_logW_1 : Type := (((Fl .f64) × (Int × Unit)) × Unit)
abbrev R_logW_1 : Type := (((Fl .f64) × (Int × Unit)) × Unit)
noncomputable def B_logW_1 (y : S_logW_1) : Option (S_logW_1 ⊕ R_logW_1) := bif fge y.1.1 (Fl.of .f64 4609434218613702656) then (some (Sum.inl (((fdiv y.1.1 (Fl.of .f64 4611686018427387904), (IntKind.i64.wrap (y.1.2.1 + 1), ())), ())))) else (some (Sum.inr (((y.1.1, (y.1.2.1, ())), ()))))
abbrev S_logW_2 : Type := (((Fl .f64) × (Int × Unit)) × Unit)
abbrev R_logW_2 : Type := (((Fl .f64) × (Int × Unit)) × Unit)
noncomputable def B_logW_2 (y : S_logW_2) : Option (S_logW_2 ⊕ R_logW_2) := bif flt y.1.1 (Fl.of .f64 4604930618986332160) then (some (Sum.inl (((fmul y.1.1 (Fl.of .f64 4611686018427387904), (IntKind.i64.wrap (y.1.2.1 - 1), ())), ())))) else (some (Sum.inr (((y.1.1, (y.1.2.1, ())), ()))))
abbrev S_logW_3 : Type := ((Int × ((Fl .f64) × ((Fl .f64) × ((Fl .f64) × (Int × Unit))))) × Unit)
abbrev R_logW_3 : Type := ((Int × ((Fl .f64) × ((Fl .f64) × Unit))) × Unit)
noncomputable def B_logW_3 (y : S_logW_3) : Option (S_logW_3 ⊕ R_logW_3) := bif decide (y.1.2.2.2.2.1 ≥ 1) then (some (Sum.inl (((y.1.1, (y.1.2.1, (y.1.2.2.1, (fadd (fdiv (Fl.of .f64 4607182418800017408) (fofInt .f64 y.1.2.2.2.2.1)) (fmul y.1.2.2.1 y.1.2.2.2.1), (IntKind.i64.wrap (y.1.2.2.2.2.1 - 2), ()))))), ())))) else (some (Sum.inr (((y.1.1, (y.1.2.1, (y.1.2.2.2.1, ()))), ()))))
noncomputable def ss_logW : List (Nat × FSpec) := [(190, from64S), (191, bits64S)]
theorem ssOk_logW : FTolds Try.prog ss_logW := ⟨s_from64, s_bits64, trivial⟩
noncomputable def Γ_logW : Ctx := ctxOf Try.prog tys fs ss_logW loops_logW
noncomputable def d_logW (x : Fl .f64) : Option ((Fl .f64)) := bif fne x x then (Option.bind (ofBits .f64 9221120237041090561) fun (r0 : (Fl .f64)) => (some (r0))) else (bif flt x (Fl.of .f64 0) then (Option.bind (ofBits .f64 9221120237041090561) fun (r1 : (Fl .f64)) => (some (r1))) else (bif feq x (Fl.of .f64 0) then (bif false then (Option.bind (ofBits .f64 9218868437227405312) fun (r2 : (Fl .f64)) => (some (r2))) else (Option.bind (ofBits .f64 18442240474082181120) fun (r3 : (Fl .f64)) => (some (r3)))) else (bif false then (Option.bind (fbits .f64 x) fun (r4 : Int) => (Option.bind (ofBits .f64 (ibits BinOp.andNot IntKind.u64 r4 9223372036854775808)) fun (r5 : (Fl .f64)) => (bif fgt r5 (Fl.of .f64 9218868437227405311) then (some (x)) else (Option.bind (iter B_logW_1 bigN (((x, (0, ())), ()))) fun (r6 : (((Fl .f64) × (Int × Unit)) × Unit)) => (Option.bind (iter B_logW_2 bigN (((r6.1.1, (r6.1.2.1, ())), ()))) fun (r7 : (((Fl .f64) × (Int × Unit)) × Unit)) => (Option.bind (iter B_logW_3 bigN (((r7.1.2.1, (fdiv (fsub r7.1.1 (Fl.of .f64 4607182418800017408)) (fadd r7.1.1 (Fl.of .f64 4607182418800017408)), (fmul (fdiv (fsub r7.1.1 (Fl.of .f64 4607182418800017408)) (fadd r7.1.1 (Fl.of .f64 4607182418800017408))) (fdiv (fsub r7.1.1 (Fl.of .f64 4607182418800017408)) (fadd r7.1.1 (Fl.of .f64 4607182418800017408))), (Fl.of .f64 0, (25, ()))))), ()))) fun (r8 : ((Int × ((Fl .f64) × ((Fl .f64) × Unit))) × Unit)) => (some (fadd (fmul (Fl.of .f64 4611686018427387904) (fmul r8.1.2.1 r8.1.2.2.1)) (fmul (fofInt .f64 r8.1.1) (Fl.of .f64 4604418534313441775)))))))))) else (bif false then (bif fgt (fneg x) (Fl.of .f64 9218868437227405311) then (some (x)) else (Option.bind (iter B_logW_1 bigN (((x, (0, ())), ()))) fun (r9 : (((Fl .f64) × (Int × Unit)) × Unit)) => (Option.bind (iter B_logW_2 bigN (((r9.1.1, (r9.1.2.1, ())), ()))) fun (r10 : (((Fl .f64) × (Int × Unit)) × Unit)) => (Option.bind (iter B_logW_3 bigN (((r10.1.2.1, (fdiv (fsub r10.1.1 (Fl.of .f64 4607182418800017408)) (fadd r10.1.1 (Fl.of .f64 4607182418800017408)), (fmul (fdiv (fsub r10.1.1 (Fl.of .f64 4607182418800017408)) (fadd r10.1.1 (Fl.of .f64 4607182418800017408))) (fdiv (fsub r10.1.1 (Fl.of .f64 4607182418800017408)) (fadd r10.1.1 (Fl.of .f64 4607182418800017408))), (Fl.of .f64 0, (25, ()))))), ()))) fun (r11 : ((Int × ((Fl .f64) × ((Fl .f64) × Unit))) × Unit)) => (some (fadd (fmul (Fl.of .f64 4611686018427387904) (fmul r11.1.2.1 r11.1.2.2.1)) (fmul (fofInt .f64 r11.1.1) (Fl.of .f64 4604418534313441775)))))))) else (bif fgt x (Fl.of .f64 9218868437227405311) then (some (x)) else (Option.bind (iter B_logW_1 bigN (((x, (0, ())), ()))) fun (r12 : (((Fl .f64) × (Int × Unit)) × Unit)) => (Option.bind (iter B_logW_2 bigN (((r12.1.1, (r12.1.2.1, ())), ()))) fun (r13 : (((Fl .f64) × (Int × Unit)) × Unit)) => (Option.bind (iter B_logW_3 bigN (((r13.1.2.1, (fdiv (fsub r13.1.1 (Fl.of .f64 4607182418800017408)) (fadd r13.1.1 (Fl.of .f64 4607182418800017408)), (fmul (fdiv (fsub r13.1.1 (Fl.of .f64 4607182418800017408)) (fadd r13.1.1 (Fl.of .f64 4607182418800017408))) (fdiv (fsub r13.1.1 (Fl.of .f64 4607182418800017408)) (fadd r13.1.1 (Fl.of .f64 4607182418800017408))), (Fl.of .f64 0, (25, ()))))), ()))) fun (r14 : ((Int × ((Fl .f64) × ((Fl .f64) × Unit))) × Unit)) => (some (fadd (fmul (Fl.of .f64 4611686018427387904) (fmul r14.1.2.1 r14.1.2.2.1)) (fmul (fofInt .f64 r14.1.1) (Fl.of .f64 4604418534313441775))))))))))))
theorem t_logW (x : Fl .f64) : (fnT Γ_logW 10 194 [F64] [F64] x).den = d_logW x := by kernel_rfl
theorem maxF : fin (Fl.of .f64 9218868437227405311) = true ∧ ((2 ^ 128 : Nat) : Rat) ≤ val (Fl.of .f64 9218868437227405311) := by decide +kernel
theorem p_logW (x : Fl .f64) (r : (Fl .f64)) (h : lwG x = some r) : d_logW x = some r := by
  obtain ⟨hD, rfl⟩ := if_some (show (if lwD x then some (lwF x) else none) = some r from h)
  have i1 : ofBits .f64 9221120237041090561 = some (Fl.nan .f64) := by decide +kernel
  have i2 : ofBits .f64 18442240474082181120 = some (Fl.of .f64 18442240474082181120) := by decide +kernel
  unfold d_logW lwF
  simp only [i1, i2, Option.bind_some, cond_false, cond_true]
  by_cases c1 : fne x x = true
  · rw [c1]; rfl
  · by_cases c2 : flt x (Fl.of .f64 0) = true
    · rw [Bool.eq_false_iff.2 c1, c2]; rfl
    · by_cases c3 : feq x (Fl.of .f64 0) = true
      · rw [Bool.eq_false_iff.2 c1, Bool.eq_false_iff.2 c2, c3]; rfl
      · rw [Bool.eq_false_iff.2 c1, Bool.eq_false_iff.2 c2, Bool.eq_false_iff.2 c3]
        simp only [cond_false, Bool.false_eq_true, if_false]
        rcases fl_cases x with hf | rfl | ⟨s, rfl, _⟩
        · have hp := pos_of hf k0 c2 c3
          have p := hD hf hp
          obtain ⟨⟨g1, g2⟩, ⟨g3, g4⟩, _⟩ := log64_in hf 149 128 (by omega) (by omega) (by omega) p.1 p.2
          have hm : fgt x (Fl.of .f64 9218868437227405311) = false := by
            rw [fgt_val hf maxF.1]
            have := maxF.2
            exact decide_eq_false (by grind)
          rw [hm, hf]
          simp only [cond_false, if_true]
          exact log_int g1 g2 g3 g4
        · exact absurd (by decide +kernel : fne (Fl.nan .f64) (Fl.nan .f64) = true) c1
        · cases s
          · have hm : fgt (finf .f64 false) (Fl.of .f64 9218868437227405311) = true := by decide +kernel
            have hn : fin (finf .f64 false) = false := by decide +kernel
            rw [hm, hn]; rfl
          · exact absurd (by decide +kernel : flt (finf .f64 true) (Fl.of .f64 0) = true) c2
theorem s_logW : FTold Try.prog 194 lwS := walkedF (fs := fs) (ss := ss_logW) (loop := loops_logW) tysOk mixed fnsOk ssOk_logW 10 194 [F64] [F64] rfl _ fun x r h => (t_logW x).trans (p_logW x r h)
def loops_LogI (_ _ _ : Nat) : Option LSpec := none
noncomputable def ss_LogI : List (Nat × FSpec) := [(73, finS), (174, lgS), (190, from64S)]
theorem ssOk_LogI : FTolds Try.prog ss_LogI := ⟨s_IsFinite, s_logI, s_from64, trivial⟩
noncomputable def Γ_LogI : Ctx := ctxOf Try.prog tys fs ss_LogI loops_LogI
noncomputable def d_LogI (x : Fl .f32) : Option ((Fl .f32)) := bif fne x x then (Option.bind (ofBits .f64 9221120237041090561) fun (r0 : (Fl .f64)) => (Option.bind (fconv .f64 .f32 r0) fun (r1 : (Fl .f32)) => (some (r1)))) else (bif flt x (Fl.of .f32 0) then (Option.bind (ofBits .f64 9221120237041090561) fun (r2 : (Fl .f64)) => (Option.bind (fconv .f64 .f32 r2) fun (r3 : (Fl .f32)) => (some (r3)))) else (bif feq x (Fl.of .f32 0) then (bif false then (Option.bind (ofBits .f64 9218868437227405312) fun (r4 : (Fl .f64)) => (Option.bind (fconv .f64 .f32 r4) fun (r5 : (Fl .f32)) => (some (r5)))) else (Option.bind (ofBits .f64 18442240474082181120) fun (r6 : (Fl .f64)) => (Option.bind (fconv .f64 .f32 r6) fun (r7 : (Fl .f32)) => (some (r7))))) else (Option.bind (finG x) fun (r8 : Bool) => (bif !r8 then (some (x)) else (Option.bind (lgG x) fun (r9 : (Fl .f64)) => (Option.bind (fconv .f64 .f32 r9) fun (r10 : (Fl .f32)) => (some (r10))))))))
theorem t_LogI (x : Fl .f32) : (fnT Γ_LogI 10 130 [F32] [F32] x).den = d_LogI x := by kernel_rfl
theorem p_LogI (x : Fl .f32) (r : (Fl .f32)) (h : lnG x = some r) : d_LogI x = some r := by
  refine Eq.trans ?_ h
  have i1 : ofBits .f64 9221120237041090561 = some (Fl.nan .f64) := by decide +kernel
  have i2 : ofBits .f64 18442240474082181120 = some (Fl.of .f64 18442240474082181120) := by decide +kernel
  have i3 : fconv .f64 .f32 (Fl.nan .f64) = some (Fl.nan .f32) := fconv_nan_nan _
  have i4 : fconv .f64 .f32 (Fl.of .f64 18442240474082181120) = some (Fl.of .f32 4286578688) := by decide +kernel
  unfold d_LogI lnG lnF finG
  simp only [i1, i2, i3, i4, Option.bind_some, cond_false, cond_true]
  by_cases c1 : fne x x = true
  · rw [c1]; rfl
  · by_cases c2 : flt x (Fl.of .f32 0) = true
    · rw [Bool.eq_false_iff.2 c1, c2]; rfl
    · by_cases c3 : feq x (Fl.of .f32 0) = true
      · rw [Bool.eq_false_iff.2 c1, Bool.eq_false_iff.2 c2, c3]; rfl
      · rw [Bool.eq_false_iff.2 c1, Bool.eq_false_iff.2 c2, Bool.eq_false_iff.2 c3]
        simp only [cond_false, Bool.false_eq_true, if_false]
        cases hf : fin x with
        | false => rfl
        | true =>
          have hD : lgD x := ⟨hf, pos_of hf zero32' c2 c3⟩
          have k : lgG x = some (log64 (fwide x)) := if_pos hD
          obtain ⟨y, hy⟩ := ln_conv hD
          rw [k]
          simp only [Bool.not_true, cond_false, Option.bind_some, hy, if_true]
          rfl
theorem s_LogI : FTold Try.prog 130 lnS := walkedF (fs := fs) (ss := ss_LogI) (loop := loops_LogI) tysOk mixed fnsOk ssOk_LogI 10 130 [F32] [F32] rfl _ fun x r h => (t_LogI x).trans (p_LogI x r h)
def loops_LogS (_ _ _ : Nat) : Option LSpec := none
noncomputable def ss_LogS : List (Nat × FSpec) := [(194, lwS), (157, narS)]
theorem ssOk_LogS : FTolds Try.prog ss_LogS := ⟨s_logW, s_narrow, trivial⟩
noncomputable def Γ_LogS : Ctx := ctxOf Try.prog tys fs ss_LogS loops_LogS
noncomputable def d_LogS (x : Fl .f32) : Option ((Fl .f32)) := Option.bind (lwG (fwide x)) fun (r0 : (Fl .f64)) => (Option.bind (narG r0) fun (r1 : (Fl .f32)) => (some (r1)))
theorem t_LogS (x : Fl .f32) : (fnT Γ_LogS 10 171 [F32] [F32] x).den = d_LogS x := by kernel_rfl
theorem p_LogS (x : Fl .f32) (r : (Fl .f32)) (h : lnG x = some r) : d_LogS x = some r := by
  refine Eq.trans ?_ h
  have k : lwG (fwide x) = some (lwF (fwide x)) := if_pos (lwD_wide x)
  unfold d_LogS lnG narG
  rw [k]
  simp only [Option.bind_some, ln_wide]
theorem s_LogS : FTold Try.prog 171 lnS := walkedF (fs := fs) (ss := ss_LogS) (loop := loops_LogS) tysOk mixed fnsOk ssOk_LogS 10 171 [F32] [F32] rfl _ fun x r h => (t_LogS x).trans (p_LogS x r h)
def yesFG (_ : Fl .f32) : Option Bool := some true
def yesFS : FSpec := ⟨[F32], [.bool], yesFG⟩
end Go.Proofs.Ytdlcebiglolfjaa
