/- Flakes: the program's step. No condition. -/
import Derived.Test.YtjggcekliaalgaaF3
namespace Go.Proofs.Ytjggcekliaalgaa
open Go.Ab
def clG (x : Int × Int × FlT × LS × Fl .f32 × List Bool × Fl .f32) : Option (Fl .f32) := if szK x.2.2.1 ∧ (0 ≤ x.1 ∧ x.1 < x.2.2.1.1) ∧ (0 ≤ x.2.1 ∧ x.2.1 < x.2.2.1.1) ∧ x.2.2.2.1 = wL x.2.2.1.1 x.2.2.1.2 ∧ x.2.2.2.2.2.1 = rdL x.2.2.1.1 x.2.2.1.2 then some (stpV x.2.2.1.1 x.2.2.1.2 x.2.2.2.2.1 x.2.2.2.2.2.2 (x.1 + x.2.2.1.1 * x.2.1).toNat) else none
def clS : FSpec := ⟨[I64, I64, .ptr FlD, .ptr (.agg [L32]), .ptr (.agg [F32]), .ptr (.agg [LB]), .ptr (.agg [F32])], [F32], clG⟩
def L_cl_1 : LSpec := ⟨[2, 3, 4, 5, 6, 10, 11, 12, 13, 31, 32, 33], ⟨Shs.at 76 [(2, (.ptr 2 0 0)), (3, (.ptr 4 0 0)), (4, (.ptr 6 0 0)), (5, (.ptr 7 0 0)), (6, (.ptr 9 0 0)), (10, (.int IntKind.i64)), (11, (.slc 2146435328)), (12, (.flt FloatKind.f32)), (13, (.flt FloatKind.f32)), (31, (.slc 2146435328)), (32, (.int IntKind.i64)), (33, (.int IntKind.i64))], [(2, (.vals false (.cons (.int IntKind.i64) (.cons (.slc 3) .nil)))), (3, (.arr false (EK.flt FloatKind.f32))), (4, (.vals false (.cons (.slc 5) .nil))), (5, (.arr false (EK.flt FloatKind.f32))), (6, (.vals false (.cons (.flt FloatKind.f32) .nil))), (7, (.vals false (.cons (.slc 8) .nil))), (8, (.arr false (EK.bool))), (9, (.vals false (.cons (.flt FloatKind.f32) .nil))), (2146435328, (.arr true (EK.int IntKind.i64)))]⟩, [⟨.ext 0, [2, 4, 5, 6, 10, 11, 12, 13], ⟨Shs.at 76 [(2, (.ptr 2 0 0)), (4, (.ptr 6 0 0)), (5, (.ptr 7 0 0)), (6, (.ptr 9 0 0)), (10, (.int IntKind.i64)), (11, (.slc 2146435328)), (12, (.flt FloatKind.f32)), (13, (.flt FloatKind.f32))], [(2, (.vals false (.cons (.int IntKind.i64) (.cons (.slc 3) .nil)))), (3, (.arr false (EK.flt FloatKind.f32))), (4, (.vals false (.cons (.slc 5) .nil))), (5, (.arr false (EK.flt FloatKind.f32))), (6, (.vals false (.cons (.flt FloatKind.f32) .nil))), (7, (.vals false (.cons (.slc 8) .nil))), (8, (.arr false (EK.bool))), (9, (.vals false (.cons (.flt FloatKind.f32) .nil))), (2146435328, (.arr true (EK.int IntKind.i64)))]⟩⟩], fun _ => bigN⟩
def L_cl_2 : LSpec := ⟨[2, 4, 5, 6, 10, 12, 13, 46, 47], ⟨Shs.at 76 [(2, (.ptr 2 0 0)), (4, (.ptr 6 0 0)), (5, (.ptr 7 0 0)), (6, (.ptr 9 0 0)), (10, (.int IntKind.i64)), (12, (.flt FloatKind.f32)), (13, (.flt FloatKind.f32)), (46, (.int IntKind.i64)), (47, (.int IntKind.i64))], [(2, (.vals false (.cons (.int IntKind.i64) (.cons (.slc 3) .nil)))), (3, (.arr false (EK.flt FloatKind.f32))), (4, (.vals false (.cons (.slc 5) .nil))), (5, (.arr false (EK.flt FloatKind.f32))), (6, (.vals false (.cons (.flt FloatKind.f32) .nil))), (7, (.vals false (.cons (.slc 8) .nil))), (8, (.arr false (EK.bool))), (9, (.vals false (.cons (.flt FloatKind.f32) .nil)))]⟩, [⟨.ext 2, [2, 4, 5, 6, 10, 12, 13], ⟨Shs.at 76 [(2, (.ptr 2 0 0)), (4, (.ptr 6 0 0)), (5, (.ptr 7 0 0)), (6, (.ptr 9 0 0)), (10, (.int IntKind.i64)), (12, (.flt FloatKind.f32)), (13, (.flt FloatKind.f32))], [(2, (.vals false (.cons (.int IntKind.i64) (.cons (.slc 3) .nil)))), (3, (.arr false (EK.flt FloatKind.f32))), (4, (.vals false (.cons (.slc 5) .nil))), (5, (.arr false (EK.flt FloatKind.f32))), (6, (.vals false (.cons (.flt FloatKind.f32) .nil))), (7, (.vals false (.cons (.slc 8) .nil))), (8, (.arr false (EK.bool))), (9, (.vals false (.cons (.flt FloatKind.f32) .nil)))]⟩⟩], fun _ => bigN⟩
def loops_cl (f k n : Nat) : Option LSpec := bif (Nat.beq f 115 && Nat.beq k 4 && Nat.beq n 1) then some L_cl_1 else bif (Nat.beq f 115 && Nat.beq k 9 && Nat.beq n 1) then some L_cl_2 else none
abbrev S_cl_1 : Type := ((Int × (Nat × ((Fl .f32) × ((Fl .f32) × (Nat × (Int × (Int × Unit))))))) × ((Int × (Nat × Unit)) × ((List (Fl .f32)) × ((Nat × Unit) × ((List (Fl .f32)) × (((Fl .f32) × Unit) × ((Nat × Unit) × ((List Bool) × (((Fl .f32) × Unit) × ((List Int) × Unit))))))))))
abbrev R_cl_1 : Type := ((Int × (Nat × ((Fl .f32) × ((Fl .f32) × Unit)))) × ((Int × (Nat × Unit)) × ((List (Fl .f32)) × ((Nat × Unit) × ((List (Fl .f32)) × (((Fl .f32) × Unit) × ((Nat × Unit) × ((List Bool) × (((Fl .f32) × Unit) × ((List Int) × Unit))))))))))
noncomputable def B_cl_1 (y : S_cl_1) : Option (S_cl_1 ⊕ R_cl_1) := bif decide (y.1.2.2.2.2.2.2.1 < y.1.2.2.2.2.2.1) then (bif inB y.1.2.2.2.2.2.2.1 y.1.2.2.2.2.1 then (bif inB (List.getD y.2.2.2.2.2.2.2.2.2.1 (0 + Int.toNat y.1.2.2.2.2.2.2.1) (0 : Int)) y.2.2.2.1.1 then (some (Sum.inl (((y.1.1, (y.1.2.1, (y.1.2.2.1, (fadd y.1.2.2.2.1 (List.getD y.2.2.2.2.1 (0 + Int.toNat (List.getD y.2.2.2.2.2.2.2.2.2.1 (0 + Int.toNat y.1.2.2.2.2.2.2.1) (0 : Int))) dN), (y.1.2.2.2.2.1, (y.1.2.2.2.2.2.1, (IntKind.i64.wrap (y.1.2.2.2.2.2.2.1 + 1), ()))))))), ((y.2.1.1, (y.2.1.2.1, ())), (y.2.2.1, ((y.2.2.2.1.1, ()), (y.2.2.2.2.1, ((y.2.2.2.2.2.1.1, ()), ((y.2.2.2.2.2.2.1.1, ()), (y.2.2.2.2.2.2.2.1, ((y.2.2.2.2.2.2.2.2.1.1, ()), (y.2.2.2.2.2.2.2.2.2.1, ()))))))))))))) else (none)) else (none)) else (some (Sum.inr (((y.1.1, (y.1.2.1, (y.1.2.2.1, (y.1.2.2.2.1, ())))), ((y.2.1.1, (y.2.1.2.1, ())), (y.2.2.1, ((y.2.2.2.1.1, ()), (y.2.2.2.2.1, ((y.2.2.2.2.2.1.1, ()), ((y.2.2.2.2.2.2.1.1, ()), (y.2.2.2.2.2.2.2.1, ((y.2.2.2.2.2.2.2.2.1.1, ()), (y.2.2.2.2.2.2.2.2.2.1, ())))))))))))))
abbrev S_cl_2 : Type := ((Int × ((Fl .f32) × ((Fl .f32) × (Int × (Int × Unit))))) × ((Int × (Nat × Unit)) × ((List (Fl .f32)) × ((Nat × Unit) × ((List (Fl .f32)) × (((Fl .f32) × Unit) × ((Nat × Unit) × ((List Bool) × (((Fl .f32) × Unit) × Unit)))))))))
abbrev R_cl_2 : Type := ((Int × ((Fl .f32) × ((Fl .f32) × Unit))) × ((Int × (Nat × Unit)) × ((List (Fl .f32)) × ((Nat × Unit) × ((List (Fl .f32)) × (((Fl .f32) × Unit) × ((Nat × Unit) × ((List Bool) × (((Fl .f32) × Unit) × Unit)))))))))
noncomputable def B_cl_2 (y : S_cl_2) : Option (S_cl_2 ⊕ R_cl_2) := bif decide (y.1.2.2.2.2.1 < y.1.2.2.2.1) then (some (Sum.inl (((y.1.1, (y.1.2.1, (fadd y.1.2.2.1 y.1.2.1, (y.1.2.2.2.1, (IntKind.i64.wrap (y.1.2.2.2.2.1 + 1), ()))))), ((y.2.1.1, (y.2.1.2.1, ())), (y.2.2.1, ((y.2.2.2.1.1, ()), (y.2.2.2.2.1, ((y.2.2.2.2.2.1.1, ()), ((y.2.2.2.2.2.2.1.1, ()), (y.2.2.2.2.2.2.2.1, ((y.2.2.2.2.2.2.2.2.1.1, ()), ())))))))))))) else (some (Sum.inr (((y.1.1, (y.1.2.1, (y.1.2.2.1, ()))), ((y.2.1.1, (y.2.1.2.1, ())), (y.2.2.1, ((y.2.2.2.1.1, ()), (y.2.2.2.2.1, ((y.2.2.2.2.2.1.1, ()), ((y.2.2.2.2.2.2.1.1, ()), (y.2.2.2.2.2.2.2.1, ((y.2.2.2.2.2.2.2.2.1.1, ()), ()))))))))))))
noncomputable def ss_cl : List (Nat × FSpec) := [(116, besS)]
theorem ssOk_cl : FTolds Try.prog ss_cl := ⟨s_bes, trivial⟩
noncomputable def Γ_cl : Ctx := ctxOf Try.prog tys fs ss_cl loops_cl
noncomputable def d_cl (x y : Int) (sd : Int) (sv : LS) (wt : LS) (a : Fl .f32) (rd : List Bool) (b : Fl .f32) : Option ((Fl .f32)) := Option.bind (besG ((sd, sub sv 0 (List.length sv)), x, y)) fun (r0 : (List Int)) => (bif inB (IntKind.i64.wrap (x + IntKind.i64.wrap (sd * y))) (List.length wt) then (Option.bind (iter B_cl_1 bigN (((IntKind.i64.wrap (x + IntKind.i64.wrap (sd * y)), (List.length r0, (List.getD wt (0 + (IntKind.i64.wrap (x + IntKind.i64.wrap (sd * y))).toNat) dN, (Fl.of .f32 0, (List.length r0, (((List.length r0 : Nat) : Int), (0, ()))))))), ((sd, (List.length sv, ())), (sv, ((List.length wt, ()), (wt, ((a, ()), ((rd.length, ()), (rd, ((b, ()), (r0, ())))))))))))) fun (r1 : ((Int × (Nat × ((Fl .f32) × ((Fl .f32) × Unit)))) × ((Int × (Nat × Unit)) × ((List (Fl .f32)) × ((Nat × Unit) × ((List (Fl .f32)) × (((Fl .f32) × Unit) × ((Nat × Unit) × ((List Bool) × (((Fl .f32) × Unit) × ((List Int) × Unit))))))))))) => (Option.bind (iter B_cl_2 bigN (((r1.1.1, (r1.1.2.2.1, (r1.1.2.2.2.1, (IntKind.i64.wrap (6 - (r1.1.2.1 : Int)), (0, ()))))), ((r1.2.1.1, (r1.2.1.2.1, ())), (r1.2.2.1, ((r1.2.2.2.1.1, ()), (r1.2.2.2.2.1, ((r1.2.2.2.2.2.1.1, ()), ((r1.2.2.2.2.2.2.1.1, ()), (r1.2.2.2.2.2.2.2.1, ((r1.2.2.2.2.2.2.2.2.1.1, ()), ()))))))))))) fun (r2 : ((Int × ((Fl .f32) × ((Fl .f32) × Unit))) × ((Int × (Nat × Unit)) × ((List (Fl .f32)) × ((Nat × Unit) × ((List (Fl .f32)) × (((Fl .f32) × Unit) × ((Nat × Unit) × ((List Bool) × (((Fl .f32) × Unit) × Unit)))))))))) => (bif inB r2.1.1 r2.2.2.2.2.2.2.1.1 then (bif List.getD r2.2.2.2.2.2.2.2.1 (0 + Int.toNat r2.1.1) EK.bool.dflt then (bif inB r2.1.1 r2.2.1.2.1 then (some (fadd (fadd r2.1.2.1 (fmul (fmul (Fl.of .f32 1056964608) r2.2.2.2.2.2.1.1) (fsub (fdiv r2.1.2.2.1 (Fl.of .f32 1086324736)) r2.1.2.1))) (fadd (List.getD r2.2.2.1 (0 + Int.toNat r2.1.1) dN) r2.2.2.2.2.2.2.2.2.1.1))) else (none)) else (some (fadd r2.1.2.1 (fmul (fmul (Fl.of .f32 1056964608) r2.2.2.2.2.2.1.1) (fsub (fdiv r2.1.2.2.1 (Fl.of .f32 1086324736)) r2.1.2.1))))) else (none)))) else (none))
theorem t_cl (x y : Int) (sd : Int) (sv : LS) (wt : LS) (a : Fl .f32) (rd : List Bool) (b : Fl .f32) : (fnT Γ_cl 10 115 [I64, I64, .ptr FlD, .ptr (.agg [L32]), .ptr (.agg [F32]), .ptr (.agg [LB]), .ptr (.agg [F32])] [F32] (x, y, (sd, sv), wt, a, rd, b)).den = d_cl x y sd sv wt a rd b := by kernel_rfl
theorem loop_cl1 {i sd : Int} {sv wt : LS} {a b z : Fl .f32} {rd : List Bool} {ks : LI} (hb : ks.length < 2 ^ 62) (hks : ∀ k, k < ks.length → 0 ≤ ks.getD k 0 ∧ ks.getD k 0 < (wt.length : Int)) : iter B_cl_1 bigN ((i, (ks.length, (z, (Fl.of .f32 0, (ks.length, ((ks.length : Int), (0, ()))))))), ((sd, (sv.length, ())), (sv, ((wt.length, ()), (wt, ((a, ()), ((rd.length, ()), (rd, ((b, ()), (ks, ())))))))))) = some ((i, (ks.length, (z, (accM wt ks ks.length, ())))), ((sd, (sv.length, ())), (sv, ((wt.length, ()), (wt, ((a, ()), ((rd.length, ()), (rd, ((b, ()), (ks, ())))))))))) :=
  iter_for (B := B_cl_1) (fun k => ((i, (ks.length, (z, (accM wt ks k, (ks.length, ((ks.length : Int), ((k : Int), ()))))))), ((sd, (sv.length, ())), (sv, ((wt.length, ()), (wt, ((a, ()), ((rd.length, ()), (rd, ((b, ()), (ks, ()))))))))))) 0 ks.length _ (Nat.zero_le _) hb (fun k _ hk => by
    have h := hks k hk
    unfold B_cl_1
    simp only [ltT hk, cond_true, inB_of hk, Int.toNat_natCast, Nat.zero_add, inc64 hk hb, inB_int h.1 h.2]
    rfl) (by
    unfold B_cl_1
    simp only [ltF, cond_false])
theorem loop_cl2 {i sd R : Int} {sv wt : LS} {a b z m : Fl .f32} {rd : List Bool} (h0 : 0 ≤ R) (h1 : R ≤ 6) : iter B_cl_2 bigN ((i, (z, (m, (R, (0, ()))))), ((sd, (sv.length, ())), (sv, ((wt.length, ()), (wt, ((a, ()), ((rd.length, ()), (rd, ((b, ()), ()))))))))) = some ((i, (z, (addR m z R.toNat, ()))), ((sd, (sv.length, ())), (sv, ((wt.length, ()), (wt, ((a, ()), ((rd.length, ()), (rd, ((b, ()), ()))))))))) :=
  iter_for (B := B_cl_2) (fun r => ((i, (z, (addR m z r, (R, ((r : Int), ()))))), ((sd, (sv.length, ())), (sv, ((wt.length, ()), (wt, ((a, ()), ((rd.length, ()), (rd, ((b, ()), ())))))))))) 0 R.toNat _ (Nat.zero_le _) (by omega) (fun r _ hr => by
    have e1 : decide ((r : Int) < R) = true := decide_eq_true (by omega)
    unfold B_cl_2
    simp only [e1, cond_true, wrap64 (n := (r : Int) + 1) (by omega) (by omega)]
    rfl) (by
    have e1 : decide ((R.toNat : Int) < R) = false := decide_eq_false (by omega)
    unfold B_cl_2
    simp only [e1, cond_false])
theorem xy_idx {n x y : Int} (h1 : 3 ≤ n) (h2 : n ≤ 16) (x0 : 0 ≤ x) (x1 : x < n) (y0 : 0 ≤ y) (y1 : y < n) : 0 ≤ n * y ∧ n * y ≤ 256 ∧ 0 ≤ x + n * y ∧ x + n * y < n * n ∧ (x + n * y) % n = x ∧ (x + n * y) / n = y := by
  have a : 0 ≤ n * y := Int.mul_nonneg (by omega) y0
  have b : n * y ≤ n * (n - 1) := Int.mul_le_mul_of_nonneg_left (by omega) (by omega)
  have c := sq_b h1 h2
  rw [Int.mul_sub, Int.mul_one] at b
  refine ⟨a, by omega, by omega, by omega, ?_, ?_⟩
  · rw [Int.add_mul_emod_self_left, Int.emod_eq_of_lt x0 x1]
  · rw [Int.add_mul_ediv_left _ _ (by omega), Int.ediv_eq_zero_of_lt x0 x1, Int.zero_add]
theorem mix_same (w : LS) (n x y : Int) (z : Fl .f32) : addR (accM w (besL n x y) (besL n x y).length) z (6 - ((besL n x y).length : Int)).toNat = mixF w (nearL n x y) z := by
  unfold mixF
  rw [acc_same, lack_bes]
theorem p_cl (x y : Int) (sd : Int) (sv : LS) (wt : LS) (a : Fl .f32) (rd : List Bool) (b : Fl .f32) (r : (Fl .f32)) (h : clG (x, y, (sd, sv), wt, a, rd, b) = some r) : d_cl x y sd sv wt a rd b = some r := by
  obtain ⟨⟨hk, ⟨x0, x1⟩, ⟨y0, y1⟩, rfl, rfl⟩, rfl⟩ := if_some (show (if szK (sd, sv) ∧ (0 ≤ x ∧ x < sd) ∧ (0 ≤ y ∧ y < sd) ∧ wt = wL sd sv ∧ rd = rdL sd sv then some (stpV sd sv a b (x + sd * y).toNat) else none) = some r from h)
  have h1 : 3 ≤ sd := hk.1.1
  have h2 : sd ≤ 16 := hk.1.2
  have hl : (sv.length : Int) = sd * sd := hk.2
  have sq := sq_b h1 h2
  obtain ⟨q1, q2, q3, q4, q5, q6⟩ := xy_idx h1 h2 x0 x1 y0 y1
  have k1 : besG ((sd, sv), x, y) = some (besL sd x y) := if_pos ⟨⟨h1, h2⟩, ⟨x0, x1⟩, y0, y1⟩
  have bl : (besL sd x y).length ≤ 6 := bk_len sd x y 6
  have mx := mix_same (wL sd sv) sd x y (wF sd sv (x + sd * y).toNat)
  obtain ⟨i, hi⟩ : ∃ i : Nat, x + sd * y = i := ⟨(x + sd * y).toNat, by omega⟩
  rw [hi] at q3 q4 q5 q6 mx ⊢
  rw [Int.toNat_natCast] at mx ⊢
  have hil : i < sv.length := by omega
  have gw : (wL sd sv).getD i dN = wF sd sv i := mapR_get _ _ hil
  have gr : (rdL sd sv).getD i false = rdyF sd sv i := mapR_get _ _ hil
  have c1 := loop_cl1 (i := (i : Int)) (sd := sd) (sv := sv) (wt := wL sd sv) (a := a) (b := b) (z := wF sd sv i) (rd := rdL sd sv) (ks := besL sd x y) (by omega) (fun k hk' => by
    have := bes_in (x := x) (y := y) h1 hk'
    rw [wL_len]; omega)
  have c2 := loop_cl2 (i := (i : Int)) (sd := sd) (R := 6 - ((besL sd x y).length : Int)) (sv := sv) (wt := wL sd sv) (a := a) (b := b) (z := wF sd sv i) (m := accM (wL sd sv) (besL sd x y) (besL sd x y).length) (rd := rdL sd sv) (by omega) (by omega)
  rw [mx] at c2
  have sv1 : stpV sd sv a b i = bif rdyF sd sv i then fadd (fadd (wF sd sv i) (fmul (fmul (Fl.of .f32 1056964608) a) (fsub (fdiv (mixF (wL sd sv) (nearL sd x y) (wF sd sv i)) (Fl.of .f32 1086324736)) (wF sd sv i)))) (fadd (sv.getD i dN) b) else fadd (wF sd sv i) (fmul (fmul (Fl.of .f32 1056964608) a) (fsub (fdiv (mixF (wL sd sv) (nearL sd x y) (wF sd sv i)) (Fl.of .f32 1086324736)) (wF sd sv i))) := by
    unfold stpV
    rw [q5, q6]
  unfold d_cl
  simp only [sub_all, k1, Option.bind_some, wrap64 (n := sd * y) (by omega) (by omega), hi, wrap64 (n := (i : Int)) (by omega) (by omega), inB_int q3 (show (i : Int) < (wL sd sv).length by rw [wL_len]; omega), cond_true, Int.toNat_natCast, Nat.zero_add, gw]
  refine (congrArg (fun z => Option.bind z _) (show iter B_cl_1 bigN _ = _ from c1)).trans ?_
  simp only [Option.bind_some, wrap64 (n := 6 - ((besL sd x y).length : Int)) (by omega) (by omega)]
  refine (congrArg (fun z => Option.bind z _) (show iter B_cl_2 bigN _ = _ from c2)).trans ?_
  simp only [Option.bind_some, rdL_len, inB_of hil, cond_true, Int.toNat_natCast, Nat.zero_add, show EK.bool.dflt = false from rfl, gr]
  rw [sv1]
  cases rdyF sd sv i <;> rfl
theorem s_cl : FTold Try.prog 115 clS := walkedF (fs := fs) (ss := ss_cl) (loop := loops_cl) tysOk mixed fnsOk ssOk_cl 10 115 [I64, I64, .ptr FlD, .ptr (.agg [L32]), .ptr (.agg [F32]), .ptr (.agg [LB]), .ptr (.agg [F32])] [F32] rfl _ fun (x, y, (sd, sv), wt, a, rd, b) r h => (t_cl x y sd sv wt a rd b).trans (p_cl x y sd sv wt a rd b r h)
open Classical in
noncomputable def stpF (x : FlT) (a b : Fl .f32) : FlT × Bool := if vkP x ∧ fin a = true ∧ fin b = true ∧ vkP (x.1, stpL x.1 x.2 a b x.2.length) then ((x.1, stpL x.1 x.2 a b x.2.length), true) else ((0, []), false)
noncomputable def stpIG (x : FlT × Fl .f32 × Fl .f32) : Option (FlT × Bool) := if x.1.2.length < 2 ^ 62 then some (stpF x.1 x.2.1 x.2.2) else none
noncomputable def stpIS : FSpec := ⟨[FlD, F32, F32], [FlD, .bool], stpIG⟩
theorem stp_no {x : FlT} {a b : Fl .f32} (h : ¬ (vkP x ∧ fin a = true ∧ fin b = true ∧ vkP (x.1, stpL x.1 x.2 a b x.2.length))) : stpF x a b = ((0, []), false) := if_neg h
theorem stp_yes {x : FlT} {a b : Fl .f32} (h : vkP x ∧ fin a = true ∧ fin b = true ∧ vkP (x.1, stpL x.1 x.2 a b x.2.length)) : stpF x a b = ((x.1, stpL x.1 x.2 a b x.2.length), true) := if_pos h
def L_StepI_1 : LSpec := ⟨[3, 4, 5, 6, 8, 9, 27, 28, 29], ⟨Shs.at 53 [(3, (.ptr 2146435392 0 0)), (4, (.ptr 2146435393 0 0)), (5, (.ptr 2146435394 0 0)), (6, (.ptr 2146435395 0 0)), (8, (.ptr 2146435396 0 0)), (9, (.ptr 2146435397 0 0)), (27, (.slc 2)), (28, (.int IntKind.i64)), (29, (.int IntKind.i64))], [(2, (.arr false (EK.flt FloatKind.f32))), (2146435392, (.vals true (.cons (.int IntKind.i64) (.cons (.slc 2) .nil)))), (2146435393, (.vals true (.cons (.flt FloatKind.f32) .nil))), (2146435394, (.vals true (.cons (.flt FloatKind.f32) .nil))), (2146435395, (.vals true (.cons (.int IntKind.i64) (.cons (.slc 2146435398) .nil)))), (2146435396, (.vals true (.cons (.slc 2146435399) .nil))), (2146435397, (.vals true (.cons (.slc 2146435400) .nil))), (2146435398, (.arr true (EK.flt FloatKind.f32))), (2146435399, (.arr true (EK.flt FloatKind.f32))), (2146435400, (.arr true (EK.bool)))]⟩, [⟨.ext 0, [3, 4, 5, 6, 8, 9], ⟨Shs.at 53 [(3, (.ptr 2146435392 0 0)), (4, (.ptr 2146435393 0 0)), (5, (.ptr 2146435394 0 0)), (6, (.ptr 2146435395 0 0)), (8, (.ptr 2146435396 0 0)), (9, (.ptr 2146435397 0 0))], [(2, (.arr false (EK.flt FloatKind.f32))), (2146435392, (.vals true (.cons (.int IntKind.i64) (.cons (.slc 2) .nil)))), (2146435393, (.vals true (.cons (.flt FloatKind.f32) .nil))), (2146435394, (.vals true (.cons (.flt FloatKind.f32) .nil))), (2146435395, (.vals true (.cons (.int IntKind.i64) (.cons (.slc 2146435398) .nil)))), (2146435396, (.vals true (.cons (.slc 2146435399) .nil))), (2146435397, (.vals true (.cons (.slc 2146435400) .nil))), (2146435398, (.arr true (EK.flt FloatKind.f32))), (2146435399, (.arr true (EK.flt FloatKind.f32))), (2146435400, (.arr true (EK.bool)))]⟩⟩], fun _ => bigN⟩
def L_StepI_2 : LSpec := ⟨[0, 1, 4, 6, 11, 12], ⟨Shs.at 35 [(0, (.int IntKind.i64)), (1, (.fn (Fn.func 115) .nil (.cons (.ptr 2146435392 0 0) (.cons (.ptr 2146435396 0 0) (.cons (.ptr 2146435393 0 0) (.cons (.ptr 2146435397 0 0) (.cons (.ptr 2146435394 0 0) .nil))))))), (4, (.ptr 1155345154240 0 0)), (6, (.ptr 1155345154241 0 0)), (11, (.int IntKind.i64)), (12, (.int IntKind.i64))], [(2, (.arr false (EK.flt FloatKind.f32))), (2146435392, (.vals true (.cons (.int IntKind.i64) (.cons (.slc 2) .nil)))), (2146435393, (.vals true (.cons (.flt FloatKind.f32) .nil))), (2146435394, (.vals true (.cons (.flt FloatKind.f32) .nil))), (2146435395, (.vals true (.cons (.int IntKind.i64) (.cons (.slc 2146435398) .nil)))), (2146435396, (.vals true (.cons (.slc 2146435399) .nil))), (2146435397, (.vals true (.cons (.slc 2146435400) .nil))), (2146435398, (.arr true (EK.flt FloatKind.f32))), (2146435399, (.arr true (EK.flt FloatKind.f32))), (2146435400, (.arr true (EK.bool))), (1155345154240, (.vals true (.cons (.int IntKind.i64) (.cons (.slc 1155345154242) .nil)))), (1155345154241, (.vals true (.cons (.int IntKind.i64) (.cons (.slc 1155345154243) .nil)))), (1155345154242, (.arr true (EK.flt FloatKind.f32))), (1155345154243, (.arr true (EK.flt FloatKind.f32)))]⟩, [⟨.ext 0, [4, 6], ⟨Shs.at 35 [(4, (.ptr 1155345154240 0 0)), (6, (.ptr 1155345154241 0 0))], [(2, (.arr false (EK.flt FloatKind.f32))), (2146435392, (.vals true (.cons (.int IntKind.i64) (.cons (.slc 2) .nil)))), (2146435393, (.vals true (.cons (.flt FloatKind.f32) .nil))), (2146435394, (.vals true (.cons (.flt FloatKind.f32) .nil))), (2146435395, (.vals true (.cons (.int IntKind.i64) (.cons (.slc 2146435398) .nil)))), (2146435396, (.vals true (.cons (.slc 2146435399) .nil))), (2146435397, (.vals true (.cons (.slc 2146435400) .nil))), (2146435398, (.arr true (EK.flt FloatKind.f32))), (2146435399, (.arr true (EK.flt FloatKind.f32))), (2146435400, (.arr true (EK.bool))), (1155345154240, (.vals true (.cons (.int IntKind.i64) (.cons (.slc 1155345154242) .nil)))), (1155345154241, (.vals true (.cons (.int IntKind.i64) (.cons (.slc 1155345154243) .nil)))), (1155345154242, (.arr true (EK.flt FloatKind.f32))), (1155345154243, (.arr true (EK.flt FloatKind.f32)))]⟩⟩], fun _ => bigN⟩
def L_StepI_3 : LSpec := ⟨[0, 1, 4, 6, 7, 11, 12, 15, 16], ⟨Shs.at 35 [(0, (.int IntKind.i64)), (1, (.fn (Fn.func 115) .nil (.cons (.ptr 2146435392 0 0) (.cons (.ptr 2146435396 0 0) (.cons (.ptr 2146435393 0 0) (.cons (.ptr 2146435397 0 0) (.cons (.ptr 2146435394 0 0) .nil))))))), (4, (.ptr 1155345154432 0 0)), (6, (.ptr 1155345154433 0 0)), (7, (.int IntKind.i64)), (11, (.int IntKind.i64)), (12, (.int IntKind.i64)), (15, (.int IntKind.i64)), (16, (.int IntKind.i64))], [(2, (.arr false (EK.flt FloatKind.f32))), (2146435392, (.vals true (.cons (.int IntKind.i64) (.cons (.slc 2) .nil)))), (2146435393, (.vals true (.cons (.flt FloatKind.f32) .nil))), (2146435394, (.vals true (.cons (.flt FloatKind.f32) .nil))), (2146435395, (.vals true (.cons (.int IntKind.i64) (.cons (.slc 2146435398) .nil)))), (2146435396, (.vals true (.cons (.slc 2146435399) .nil))), (2146435397, (.vals true (.cons (.slc 2146435400) .nil))), (2146435398, (.arr true (EK.flt FloatKind.f32))), (2146435399, (.arr true (EK.flt FloatKind.f32))), (2146435400, (.arr true (EK.bool))), (1155345154432, (.vals true (.cons (.int IntKind.i64) (.cons (.slc 1155345154434) .nil)))), (1155345154433, (.vals true (.cons (.int IntKind.i64) (.cons (.slc 1155345154435) .nil)))), (1155345154434, (.arr true (EK.flt FloatKind.f32))), (1155345154435, (.arr true (EK.flt FloatKind.f32)))]⟩, [⟨.ext 2, [0, 1, 4, 6, 11, 12], ⟨Shs.at 35 [(0, (.int IntKind.i64)), (1, (.fn (Fn.func 115) .nil (.cons (.ptr 2146435392 0 0) (.cons (.ptr 2146435396 0 0) (.cons (.ptr 2146435393 0 0) (.cons (.ptr 2146435397 0 0) (.cons (.ptr 2146435394 0 0) .nil))))))), (4, (.ptr 1155345154432 0 0)), (6, (.ptr 1155345154433 0 0)), (11, (.int IntKind.i64)), (12, (.int IntKind.i64))], [(2, (.arr false (EK.flt FloatKind.f32))), (2146435392, (.vals true (.cons (.int IntKind.i64) (.cons (.slc 2) .nil)))), (2146435393, (.vals true (.cons (.flt FloatKind.f32) .nil))), (2146435394, (.vals true (.cons (.flt FloatKind.f32) .nil))), (2146435395, (.vals true (.cons (.int IntKind.i64) (.cons (.slc 2146435398) .nil)))), (2146435396, (.vals true (.cons (.slc 2146435399) .nil))), (2146435397, (.vals true (.cons (.slc 2146435400) .nil))), (2146435398, (.arr true (EK.flt FloatKind.f32))), (2146435399, (.arr true (EK.flt FloatKind.f32))), (2146435400, (.arr true (EK.bool))), (1155345154432, (.vals true (.cons (.int IntKind.i64) (.cons (.slc 1155345154434) .nil)))), (1155345154433, (.vals true (.cons (.int IntKind.i64) (.cons (.slc 1155345154435) .nil)))), (1155345154434, (.arr true (EK.flt FloatKind.f32))), (1155345154435, (.arr true (EK.flt FloatKind.f32)))]⟩⟩], fun _ => bigN⟩
def loops_StepI (f k n : Nat) : Option LSpec := bif (Nat.beq f 42 && Nat.beq k 5 && Nat.beq n 1) then some L_StepI_1 else bif (Nat.beq f 114 && Nat.beq k 3 && Nat.beq n 1075) then some L_StepI_2 else bif (Nat.beq f 114 && Nat.beq k 6 && Nat.beq n 1075) then some L_StepI_3 else none
abbrev S_StepI_1 : Type := ((Nat × (Int × (Int × Unit))) × ((List (Fl .f32)) × ((Int × (Nat × Unit)) × (((Fl .f32) × Unit) × (((Fl .f32) × Unit) × ((Int × (Nat × Unit)) × ((Nat × Unit) × ((Nat × Unit) × ((List (Fl .f32)) × ((List (Fl .f32)) × ((List Bool) × Unit)))))))))))
abbrev R_StepI_1 : Type := (Unit × ((List (Fl .f32)) × ((Int × (Nat × Unit)) × (((Fl .f32) × Unit) × (((Fl .f32) × Unit) × ((Int × (Nat × Unit)) × ((Nat × Unit) × ((Nat × Unit) × ((List (Fl .f32)) × ((List (Fl .f32)) × ((List Bool) × Unit)))))))))))
noncomputable def B_StepI_1 (y : S_StepI_1) : Option (S_StepI_1 ⊕ R_StepI_1) := bif decide (y.1.2.2.1 < y.1.2.1) then (bif inB y.1.2.2.1 y.1.1 then (Option.bind (rdyIG ((y.2.2.1.1, sub y.2.1 0 y.2.2.1.2.1), y.1.2.2.1)) fun (r3 : Bool) => (bif r3 then (bif decide (y.2.2.2.2.2.2.1.1 + 1 ≤ maxA) then (bif decide (y.2.2.2.2.2.2.2.1.1 + 1 ≤ maxA) then (some (Sum.inl (((y.1.1, (y.1.2.1, (IntKind.i64.wrap (y.1.2.2.1 + 1), ()))), (y.2.1, ((y.2.2.1.1, (y.2.2.1.2.1, ())), ((y.2.2.2.1.1, ()), ((y.2.2.2.2.1.1, ()), ((y.2.2.2.2.2.1.1, (y.2.2.2.2.2.1.2.1, ())), (((sub y.2.2.2.2.2.2.2.2.2.1 0 y.2.2.2.2.2.2.1.1 ++ [Fl.of .f32 0]).length, ()), (((sub y.2.2.2.2.2.2.2.2.2.2.1 0 y.2.2.2.2.2.2.2.1.1 ++ [r3]).length, ()), (y.2.2.2.2.2.2.2.2.1, (sub y.2.2.2.2.2.2.2.2.2.1 0 y.2.2.2.2.2.2.1.1 ++ [Fl.of .f32 0], (sub y.2.2.2.2.2.2.2.2.2.2.1 0 y.2.2.2.2.2.2.2.1.1 ++ [r3], ())))))))))))))) else (none)) else (none)) else (bif decide (y.2.2.2.2.2.2.1.1 + 1 ≤ maxA) then (bif decide (y.2.2.2.2.2.2.2.1.1 + 1 ≤ maxA) then (some (Sum.inl (((y.1.1, (y.1.2.1, (IntKind.i64.wrap (y.1.2.2.1 + 1), ()))), (y.2.1, ((y.2.2.1.1, (y.2.2.1.2.1, ())), ((y.2.2.2.1.1, ()), ((y.2.2.2.2.1.1, ()), ((y.2.2.2.2.2.1.1, (y.2.2.2.2.2.1.2.1, ())), (((sub y.2.2.2.2.2.2.2.2.2.1 0 y.2.2.2.2.2.2.1.1 ++ [List.getD y.2.1 (0 + Int.toNat y.1.2.2.1) dN]).length, ()), (((sub y.2.2.2.2.2.2.2.2.2.2.1 0 y.2.2.2.2.2.2.2.1.1 ++ [r3]).length, ()), (y.2.2.2.2.2.2.2.2.1, (sub y.2.2.2.2.2.2.2.2.2.1 0 y.2.2.2.2.2.2.1.1 ++ [List.getD y.2.1 (0 + Int.toNat y.1.2.2.1) dN], (sub y.2.2.2.2.2.2.2.2.2.2.1 0 y.2.2.2.2.2.2.2.1.1 ++ [r3], ())))))))))))))) else (none)) else (none)))) else (none)) else (some (Sum.inr (((), (y.2.1, ((y.2.2.1.1, (y.2.2.1.2.1, ())), ((y.2.2.2.1.1, ()), ((y.2.2.2.2.1.1, ()), ((y.2.2.2.2.2.1.1, (y.2.2.2.2.2.1.2.1, ())), ((y.2.2.2.2.2.2.1.1, ()), ((y.2.2.2.2.2.2.2.1.1, ()), (y.2.2.2.2.2.2.2.2.1, (y.2.2.2.2.2.2.2.2.2.1, (y.2.2.2.2.2.2.2.2.2.2.1, ()))))))))))))))
abbrev S_StepI_3 : Type := ((Int × ((Unit × Unit) × (Int × (Int × (Int × (Int × (Int × Unit))))))) × ((List (Fl .f32)) × ((Int × (Nat × Unit)) × (((Fl .f32) × Unit) × (((Fl .f32) × Unit) × ((Int × (Nat × Unit)) × ((Nat × Unit) × ((Nat × Unit) × ((List (Fl .f32)) × ((List (Fl .f32)) × ((List Bool) × ((Int × (Nat × Unit)) × ((Int × (Nat × Unit)) × ((List (Fl .f32)) × ((List (Fl .f32)) × Unit)))))))))))))))
abbrev R_StepI_3 : Type := ((Int × ((Unit × Unit) × (Int × (Int × Unit)))) × ((List (Fl .f32)) × ((Int × (Nat × Unit)) × (((Fl .f32) × Unit) × (((Fl .f32) × Unit) × ((Int × (Nat × Unit)) × ((Nat × Unit) × ((Nat × Unit) × ((List (Fl .f32)) × ((List (Fl .f32)) × ((List Bool) × ((Int × (Nat × Unit)) × ((Int × (Nat × Unit)) × ((List (Fl .f32)) × ((List (Fl .f32)) × Unit)))))))))))))))
noncomputable def B_StepI_3 (y : S_StepI_3) : Option (S_StepI_3 ⊕ R_StepI_3) := bif decide (y.1.2.2.2.2.2.2.1 < y.1.2.2.2.2.2.1) then (Option.bind (clG (y.1.2.2.2.2.2.2.1, y.1.2.2.1, (y.2.2.1.1, sub y.2.1 0 y.2.2.1.2.1), sub y.2.2.2.2.2.2.2.2.2.1 0 y.2.2.2.2.2.2.1.1, y.2.2.2.1.1, sub y.2.2.2.2.2.2.2.2.2.2.1 0 y.2.2.2.2.2.2.2.1.1, y.2.2.2.2.1.1)) fun (r6 : (Fl .f32)) => (bif decide (y.2.2.2.2.2.2.2.2.2.2.2.2.1.2.1 + 1 ≤ maxA) then (some (Sum.inl (((y.1.1, (((), ()), (y.1.2.2.1, (y.1.2.2.2.1, (y.1.2.2.2.2.1, (y.1.2.2.2.2.2.1, (IntKind.i64.wrap (y.1.2.2.2.2.2.2.1 + 1), ()))))))), (y.2.1, ((y.2.2.1.1, (y.2.2.1.2.1, ())), ((y.2.2.2.1.1, ()), ((y.2.2.2.2.1.1, ()), ((y.2.2.2.2.2.1.1, (y.2.2.2.2.2.1.2.1, ())), ((y.2.2.2.2.2.2.1.1, ()), ((y.2.2.2.2.2.2.2.1.1, ()), (y.2.2.2.2.2.2.2.2.1, (y.2.2.2.2.2.2.2.2.2.1, (y.2.2.2.2.2.2.2.2.2.2.1, ((y.2.2.2.2.2.2.2.2.2.2.2.1.1, (y.2.2.2.2.2.2.2.2.2.2.2.1.2.1, ())), ((y.2.2.2.2.2.2.2.2.2.2.2.2.1.1, ((sub y.2.2.2.2.2.2.2.2.2.2.2.2.2.2.1 0 y.2.2.2.2.2.2.2.2.2.2.2.2.1.2.1 ++ [r6]).length, ())), (y.2.2.2.2.2.2.2.2.2.2.2.2.2.1, (sub y.2.2.2.2.2.2.2.2.2.2.2.2.2.2.1 0 y.2.2.2.2.2.2.2.2.2.2.2.2.1.2.1 ++ [r6], ())))))))))))))))))) else (none))) else (some (Sum.inr (((y.1.1, (((), ()), (y.1.2.2.2.1, (y.1.2.2.2.2.1, ())))), (y.2.1, ((y.2.2.1.1, (y.2.2.1.2.1, ())), ((y.2.2.2.1.1, ()), ((y.2.2.2.2.1.1, ()), ((y.2.2.2.2.2.1.1, (y.2.2.2.2.2.1.2.1, ())), ((y.2.2.2.2.2.2.1.1, ()), ((y.2.2.2.2.2.2.2.1.1, ()), (y.2.2.2.2.2.2.2.2.1, (y.2.2.2.2.2.2.2.2.2.1, (y.2.2.2.2.2.2.2.2.2.2.1, ((y.2.2.2.2.2.2.2.2.2.2.2.1.1, (y.2.2.2.2.2.2.2.2.2.2.2.1.2.1, ())), ((y.2.2.2.2.2.2.2.2.2.2.2.2.1.1, (y.2.2.2.2.2.2.2.2.2.2.2.2.1.2.1, ())), (y.2.2.2.2.2.2.2.2.2.2.2.2.2.1, (y.2.2.2.2.2.2.2.2.2.2.2.2.2.2.1, ()))))))))))))))))))
abbrev S_StepI_2 : Type := ((Int × ((Unit × Unit) × (Int × (Int × Unit)))) × ((List (Fl .f32)) × ((Int × (Nat × Unit)) × (((Fl .f32) × Unit) × (((Fl .f32) × Unit) × ((Int × (Nat × Unit)) × ((Nat × Unit) × ((Nat × Unit) × ((List (Fl .f32)) × ((List (Fl .f32)) × ((List Bool) × ((Int × (Nat × Unit)) × ((Int × (Nat × Unit)) × ((List (Fl .f32)) × ((List (Fl .f32)) × Unit)))))))))))))))
abbrev R_StepI_2 : Type := (Unit × ((List (Fl .f32)) × ((Int × (Nat × Unit)) × (((Fl .f32) × Unit) × (((Fl .f32) × Unit) × ((Int × (Nat × Unit)) × ((Nat × Unit) × ((Nat × Unit) × ((List (Fl .f32)) × ((List (Fl .f32)) × ((List Bool) × ((Int × (Nat × Unit)) × ((Int × (Nat × Unit)) × ((List (Fl .f32)) × ((List (Fl .f32)) × Unit)))))))))))))))
noncomputable def B_StepI_2 (y : S_StepI_2) : Option (S_StepI_2 ⊕ R_StepI_2) := bif decide (y.1.2.2.2.1 < y.1.2.2.1) then (Option.bind (iter B_StepI_3 bigN (((y.1.1, (((), ()), (y.1.2.2.2.1, (y.1.2.2.1, (y.1.2.2.2.1, (y.1.1, (0, ()))))))), (y.2.1, ((y.2.2.1.1, (y.2.2.1.2.1, ())), ((y.2.2.2.1.1, ()), ((y.2.2.2.2.1.1, ()), ((y.2.2.2.2.2.1.1, (y.2.2.2.2.2.1.2.1, ())), ((y.2.2.2.2.2.2.1.1, ()), ((y.2.2.2.2.2.2.2.1.1, ()), (y.2.2.2.2.2.2.2.2.1, (y.2.2.2.2.2.2.2.2.2.1, (y.2.2.2.2.2.2.2.2.2.2.1, ((y.2.2.2.2.2.2.2.2.2.2.2.1.1, (y.2.2.2.2.2.2.2.2.2.2.2.1.2.1, ())), ((y.2.2.2.2.2.2.2.2.2.2.2.2.1.1, (y.2.2.2.2.2.2.2.2.2.2.2.2.1.2.1, ())), (y.2.2.2.2.2.2.2.2.2.2.2.2.2.1, (y.2.2.2.2.2.2.2.2.2.2.2.2.2.2.1, ()))))))))))))))))) fun (r5 : ((Int × ((Unit × Unit) × (Int × (Int × Unit)))) × ((List (Fl .f32)) × ((Int × (Nat × Unit)) × (((Fl .f32) × Unit) × (((Fl .f32) × Unit) × ((Int × (Nat × Unit)) × ((Nat × Unit) × ((Nat × Unit) × ((List (Fl .f32)) × ((List (Fl .f32)) × ((List Bool) × ((Int × (Nat × Unit)) × ((Int × (Nat × Unit)) × ((List (Fl .f32)) × ((List (Fl .f32)) × Unit)))))))))))))))) => (some (Sum.inl (((r5.1.1, (((), ()), (r5.1.2.2.1, (IntKind.i64.wrap (r5.1.2.2.2.1 + 1), ())))), (r5.2.1, ((r5.2.2.1.1, (r5.2.2.1.2.1, ())), ((r5.2.2.2.1.1, ()), ((r5.2.2.2.2.1.1, ()), ((r5.2.2.2.2.2.1.1, (r5.2.2.2.2.2.1.2.1, ())), ((r5.2.2.2.2.2.2.1.1, ()), ((r5.2.2.2.2.2.2.2.1.1, ()), (r5.2.2.2.2.2.2.2.2.1, (r5.2.2.2.2.2.2.2.2.2.1, (r5.2.2.2.2.2.2.2.2.2.2.1, ((r5.2.2.2.2.2.2.2.2.2.2.2.1.1, (r5.2.2.2.2.2.2.2.2.2.2.2.1.2.1, ())), ((r5.2.2.2.2.2.2.2.2.2.2.2.2.1.1, (r5.2.2.2.2.2.2.2.2.2.2.2.2.1.2.1, ())), (r5.2.2.2.2.2.2.2.2.2.2.2.2.2.1, (r5.2.2.2.2.2.2.2.2.2.2.2.2.2.2.1, ()))))))))))))))))))) else (some (Sum.inr (((), (y.2.1, ((y.2.2.1.1, (y.2.2.1.2.1, ())), ((y.2.2.2.1.1, ()), ((y.2.2.2.2.1.1, ()), ((y.2.2.2.2.2.1.1, (y.2.2.2.2.2.1.2.1, ())), ((y.2.2.2.2.2.2.1.1, ()), ((y.2.2.2.2.2.2.2.1.1, ()), (y.2.2.2.2.2.2.2.2.1, (y.2.2.2.2.2.2.2.2.2.1, (y.2.2.2.2.2.2.2.2.2.2.1, ((y.2.2.2.2.2.2.2.2.2.2.2.1.1, (y.2.2.2.2.2.2.2.2.2.2.2.1.2.1, ())), ((y.2.2.2.2.2.2.2.2.2.2.2.2.1.1, (y.2.2.2.2.2.2.2.2.2.2.2.2.1.2.1, ())), (y.2.2.2.2.2.2.2.2.2.2.2.2.2.1, (y.2.2.2.2.2.2.2.2.2.2.2.2.2.2.1, ()))))))))))))))))))
noncomputable def ss_StepI : List (Nat × FSpec) := [(111, vkS), (112, allFinS), (113, rdyIS), (115, clS)]
theorem ssOk_StepI : FTolds Try.prog ss_StepI := ⟨s_VKI, s_areFinite, s_rdyI, s_cl, trivial⟩
noncomputable def Γ_StepI : Ctx := ctxOf Try.prog tys fs ss_StepI loops_StepI
noncomputable def d_StepI (sd : Int) (sv : LS) (a b : Fl .f32) : Option (((Int × (List (Fl .f32))) × Bool)) := Option.bind (vkG (sd, sub sv 0 (List.length sv))) fun (r0 : Bool) => (bif !r0 then (some (((0, []), false))) else (Option.bind (allFinG (sub [a, b] 0 2)) fun (r1 : Bool) => (bif !r1 then (some (((0, []), false))) else (Option.bind (iter B_StepI_1 bigN (((List.length sv, (((List.length sv : Nat) : Int), (0, ()))), (sv, ((sd, (List.length sv, ())), ((a, ()), ((b, ()), ((0, (0, ())), ((0, ()), ((0, ()), ([], ([], ([], ()))))))))))))) fun (r2 : (Unit × ((List (Fl .f32)) × ((Int × (Nat × Unit)) × (((Fl .f32) × Unit) × (((Fl .f32) × Unit) × ((Int × (Nat × Unit)) × ((Nat × Unit) × ((Nat × Unit) × ((List (Fl .f32)) × ((List (Fl .f32)) × ((List Bool) × Unit)))))))))))) => (Option.bind (iter B_StepI_2 bigN (((r2.2.2.1.1, (((), ()), (r2.2.2.1.1, (0, ())))), (r2.2.1, ((r2.2.2.1.1, (r2.2.2.1.2.1, ())), ((r2.2.2.2.1.1, ()), ((r2.2.2.2.2.1.1, ()), ((r2.2.2.2.2.2.1.1, (r2.2.2.2.2.2.1.2.1, ())), ((r2.2.2.2.2.2.2.1.1, ()), ((r2.2.2.2.2.2.2.2.1.1, ()), (r2.2.2.2.2.2.2.2.2.1, (r2.2.2.2.2.2.2.2.2.2.1, (r2.2.2.2.2.2.2.2.2.2.2.1, ((0, (0, ())), ((r2.2.2.1.1, (0, ())), ([], ([], ()))))))))))))))))) fun (r4 : (Unit × ((List (Fl .f32)) × ((Int × (Nat × Unit)) × (((Fl .f32) × Unit) × (((Fl .f32) × Unit) × ((Int × (Nat × Unit)) × ((Nat × Unit) × ((Nat × Unit) × ((List (Fl .f32)) × ((List (Fl .f32)) × ((List Bool) × ((Int × (Nat × Unit)) × ((Int × (Nat × Unit)) × ((List (Fl .f32)) × ((List (Fl .f32)) × Unit)))))))))))))))) => (Option.bind (vkG (r4.2.2.2.2.2.2.2.2.2.2.2.2.1.1, sub r4.2.2.2.2.2.2.2.2.2.2.2.2.2.2.1 0 r4.2.2.2.2.2.2.2.2.2.2.2.2.1.2.1)) fun (r7 : Bool) => (bif !r7 then (some (((0, []), false))) else (some (((r4.2.2.2.2.2.2.2.2.2.2.2.2.1.1, sub r4.2.2.2.2.2.2.2.2.2.2.2.2.2.2.1 0 r4.2.2.2.2.2.2.2.2.2.2.2.2.1.2.1), true))))))))))
theorem t_StepI (sd : Int) (sv : LS) (a b : Fl .f32) : (fnT Γ_StepI 10 42 [FlD, F32, F32] [FlD, .bool] ((sd, sv), a, b)).den = d_StepI sd sv a b := by kernel_rfl
theorem vk_sz {x : FlT} (h : vkP x) : szK x := ⟨h.1, h.2.1⟩
abbrev s1H (sd : Int) (sv : LS) (a b : Fl .f32) (i : Nat) : S_StepI_1 := ((sv.length, ((sv.length : Int), ((i : Int), ()))), (sv, ((sd, (sv.length, ())), ((a, ()), ((b, ()), (kzz, ((i, ()), ((i, ()), ([], (mapR (wF sd sv) i, (mapR (rdyF sd sv) i, ())))))))))))
theorem sub_mapR {α : Type} (f : Nat → α) (n : Nat) : sub (mapR f n) 0 n = mapR f n := by have := sub_all (mapR f n); rw [mapR_len] at this; exact this
theorem loop_i1 {sd : Int} {sv : LS} (a b : Fl .f32) (hk : szK (sd, sv)) : iter B_StepI_1 bigN (s1H sd sv a b 0) = some ((), (sv, ((sd, (sv.length, ())), ((a, ()), ((b, ()), (kzz, ((sv.length, ()), ((sv.length, ()), ([], (wL sd sv, (rdL sd sv, ()))))))))))) := by
  have sq := sq_b hk.1.1 hk.1.2
  have hl : (sv.length : Int) = sd * sd := hk.2
  have sq : 9 ≤ sd * sd ∧ sd * sd ≤ 256 := sq
  exact iter_for (B := B_StepI_1) (fun i => s1H sd sv a b i) 0 sv.length _ (Nat.zero_le _) (by omega) (fun i _ hi => by
    have k1 : rdyIG ((sd, sv), (i : Int)) = some (rdyF sd sv i) := (if_pos ⟨hk, by show 0 ≤ (i : Int); omega, by show (i : Int) < (sv.length : Int); omega⟩).trans (by rw [Int.toNat_natCast])
    have m1 := (mapR_succ (wF sd sv) i).symm
    have m2 := (mapR_succ (rdyF sd sv) i).symm
    unfold s1H B_StepI_1
    simp only [ltT hi, cond_true, inB_of hi, sub_all, k1, Option.bind_some, maxA_one (show i < 2 ^ 30 by omega), sub_mapR, Int.toNat_natCast, Nat.zero_add, inc64 hi (show sv.length < 2 ^ 62 by omega)]
    cases hr : rdyF sd sv i with
    | true =>
      have hw : wF sd sv i = Fl.of .f32 0 := by unfold wF; rw [hr]; rfl
      rw [hw] at m1
      rw [hr] at m2
      simp only [cond_true, m1, m2, mapR_len]
    | false =>
      have hw : wF sd sv i = sv.getD i dN := by unfold wF; rw [hr]; rfl
      rw [hw] at m1
      rw [hr] at m2
      simp only [cond_false, m1, m2, mapR_len]) (by
    unfold s1H B_StepI_1
    simp only [ltF, cond_false]
    rfl)
abbrev hpH (sd : Int) (sv : LS) (a b : Fl .f32) (n : Nat) : LS × (Int × Nat × Unit) × (Fl .f32 × Unit) × (Fl .f32 × Unit) × (Int × Nat × Unit) × (Nat × Unit) × (Nat × Unit) × LS × LS × List Bool × (Int × Nat × Unit) × (Int × Nat × Unit) × LS × LS × Unit := (sv, ((sd, (sv.length, ())), ((a, ()), ((b, ()), (kzz, ((sv.length, ()), ((sv.length, ()), ([], (wL sd sv, (rdL sd sv, (kzz, ((sd, (n, ())), ([], (stpL sd sv a b n, ()))))))))))))))
theorem sub_wL (sd : Int) (sv : LS) : sub (wL sd sv) 0 sv.length = wL sd sv := sub_mapR _ _
theorem sub_rdL (sd : Int) (sv : LS) : sub (rdL sd sv) 0 sv.length = rdL sd sv := sub_mapR _ _
theorem loop_i3 {m : Nat} {sv : LS} (a b : Fl .f32) (hk : szK ((m : Int), sv)) {y : Nat} (hy : y < m) : iter B_StepI_3 bigN (((m : Int), (((), ()), ((y : Int), ((m : Int), ((y : Int), ((m : Int), (0, ()))))))), hpH m sv a b (m * y)) = some (((m : Int), (((), ()), ((m : Int), ((y : Int), ())))), hpH m sv a b (m * y + m)) := by
  have h1 : 3 ≤ (m : Int) := hk.1.1
  have h2 : (m : Int) ≤ 16 := hk.1.2
  have my : m * y ≤ m * 16 := Nat.mul_le_mul_left m (by omega)
  have key := iter_for (B := B_StepI_3) (fun x => (((m : Int), (((), ()), ((y : Int), ((m : Int), ((y : Int), ((m : Int), ((x : Int), ()))))))), hpH m sv a b (m * y + x))) 0 m (((m : Int), (((), ()), ((m : Int), ((y : Int), ())))), hpH m sv a b (m * y + m)) (Nat.zero_le _) (by omega) (fun x _ hx => by
    have e : ((x : Int) + (m : Int) * (y : Int)).toNat = m * y + x := by
      have : (x : Int) + (m : Int) * (y : Int) = ((m * y + x : Nat) : Int) := by rw [Int.natCast_add, Int.natCast_mul]; omega
      rw [this, Int.toNat_natCast]
    have k1 : clG ((x : Int), (y : Int), ((m : Int), sv), wL m sv, a, rdL m sv, b) = some (stpV m sv a b (m * y + x)) := (if_pos ⟨hk, ⟨by show 0 ≤ (x : Int); omega, by show (x : Int) < (m : Int); omega⟩, ⟨by show 0 ≤ (y : Int); omega, by show (y : Int) < (m : Int); omega⟩, rfl, rfl⟩).trans (congrArg (fun i => some (stpV m sv a b i)) e)
    have ss := stpL_succ m sv a b (m * y + x)
    unfold hpH B_StepI_3
    simp only [ltT hx, cond_true, sub_all, sub_wL, sub_rdL, k1, Option.bind_some, maxA_one (show m * y + x < 2 ^ 30 by omega), sub_stpL, ss, stpL_len, inc64 hx (show m < 2 ^ 62 by omega)]
    rfl) (by
    unfold hpH B_StepI_3
    simp only [ltF, cond_false])
  exact key
theorem loop_i2 {m : Nat} {sv : LS} (a b : Fl .f32) (hk : szK ((m : Int), sv)) : iter B_StepI_2 bigN (((m : Int), (((), ()), ((m : Int), (0, ())))), hpH m sv a b 0) = some ((), hpH m sv a b (m * m)) := by
  have h1 : 3 ≤ (m : Int) := hk.1.1
  have h2 : (m : Int) ≤ 16 := hk.1.2
  have key := iter_for (B := B_StepI_2) (fun y => (((m : Int), (((), ()), ((m : Int), ((y : Int), ())))), hpH m sv a b (m * y))) 0 m ((), hpH m sv a b (m * m)) (Nat.zero_le _) (by omega) (fun y _ hy => by
    have k3 := loop_i3 a b hk hy
    unfold hpH at k3 ⊢
    unfold B_StepI_2
    simp only [ltT hy, cond_true]
    refine (congrArg (fun z => Option.bind z _) (show iter B_StepI_3 bigN _ = _ from k3)).trans ?_
    simp only [Option.bind_some, inc64 hy (show m < 2 ^ 62 by omega)]
    rfl) (by
    unfold hpH B_StepI_2
    simp only [ltF, cond_false])
  exact key
theorem p_StepI (sd : Int) (sv : LS) (a b : Fl .f32) (r : ((Int × (List (Fl .f32))) × Bool)) (h : stpIG ((sd, sv), a, b) = some r) : d_StepI sd sv a b = some r := by
  obtain ⟨hb, rfl⟩ := if_some (show (if sv.length < 2 ^ 62 then some (stpF (sd, sv) a b) else none) = some r from h)
  obtain ⟨v1, e1, i1⟩ := vk_ex (x := (sd, sv)) hb
  have k2 : allFinG [a, b] = some (fin a && fin b) := (if_pos (by show (2 : Nat) < 2 ^ 62; decide)).trans (by simp)
  unfold d_StepI
  simp only [sub_all, e1, Option.bind_some, show sub [a, b] 0 2 = [a, b] from rfl, k2]
  cases v1 with
  | false => rw [stp_no fun z => by have := i1.2 z.1; cases this]; rfl
  | true =>
  have hv := i1.1 rfl
  cases hf : (fin a && fin b) with
  | false => rw [stp_no fun z => by rw [z.2.1, z.2.2.1] at hf; cases hf]; rfl
  | true =>
  rw [Bool.and_eq_true] at hf
  have hk := vk_sz hv
  have h1 : 3 ≤ sd := hk.1.1
  have h2 : sd ≤ 16 := hk.1.2
  have hl : (sv.length : Int) = sd * sd := hk.2
  obtain ⟨m, rfl⟩ : ∃ m : Nat, sd = m := ⟨sd.toNat, by omega⟩
  have hlm : sv.length = m * m := by
    have : (sv.length : Int) = ((m * m : Nat) : Int) := by rw [Int.natCast_mul]; exact hl
    omega
  have L1 := loop_i1 a b hk
  have L2 := loop_i2 a b hk
  unfold s1H mapR at L1
  unfold hpH at L2
  rw [Int.natCast_zero] at L1
  simp only [Bool.not_true, cond_false]
  refine (congrArg (fun z => Option.bind z _) (show iter B_StepI_1 bigN _ = _ from L1)).trans ?_
  simp only [Option.bind_some]
  refine (congrArg (fun z => Option.bind z _) (show iter B_StepI_2 bigN _ = _ from L2)).trans ?_
  rw [← hlm]
  simp only [Option.bind_some, sub_stpL]
  obtain ⟨v2, e2, i2⟩ := vk_ex (x := ((m : Int), stpL m sv a b sv.length)) (by rw [stpL_len]; exact hb)
  simp only [e2, Option.bind_some]
  cases v2 with
  | false => rw [stp_no fun z => by have := i2.2 z.2.2.2; cases this]; rfl
  | true => rw [stp_yes ⟨hv, hf.1, hf.2, i2.1 rfl⟩]; rfl
theorem s_StepI : FTold Try.prog 42 stpIS := walkedF (fs := fs) (ss := ss_StepI) (loop := loops_StepI) tysOk mixed fnsOk ssOk_StepI 10 42 [FlD, F32, F32] [FlD, .bool] rfl _ fun ((sd, sv), a, b) r h => (t_StepI sd sv a b).trans (p_StepI sd sv a b r h)
end Go.Proofs.Ytjggcekliaalgaa
