/- The program's NucleiOf answers as the reference's does, at all arguments. No condition. -/
import Derived.Test.YtjggcekliaalgaaK24
namespace Go.Proofs.Ytjggcekliaalgaa
open Go.Ab
abbrev NuT : Type := LT × Pr × Int × Fl .f32 × Int
def nucOk (x : LT) (a b : LS) (n : Int) (q : Fl .f32) (s : Int) : Prop := okL x = true ∧ vp a b = true ∧ (2 ≤ n ∧ n ≤ 128) ∧ least q = true ∧ sdOk s ∧ smOk a b n = true ∧ ∀ i, 1 ≤ i → i < n.toNat → fin (meanF (mapR (smV a b n) n.toNat) i) = true ∧ fle (eF x q (mapR (smT a n) n.toNat) (mapR (smV a b n) n.toNat) i) (Fl.of .f32 1148846080) = true
open Classical in
noncomputable def nucF (x : LT) (a b : LS) (n : Int) (q : Fl .f32) (s : Int) : LI × Int × Bool := if nucOk x a b n q s then (nucL x q (mapR (smT a n) n.toNat) (mapR (smV a b n) n.toNat) s (n.toNat - 1), sdN s (n.toNat - 1), true) else ([], 0, false)
theorem nuc_no {x : LT} {a b : LS} {n : Int} {q : Fl .f32} {s : Int} (h : ¬ nucOk x a b n q s) : nucF x a b n q s = ([], 0, false) := if_neg h
theorem nuc_yes {x : LT} {a b : LS} {n : Int} {q : Fl .f32} {s : Int} (h : nucOk x a b n q s) : nucF x a b n q s = (nucL x q (mapR (smT a n) n.toNat) (mapR (smV a b n) n.toNat) s (n.toNat - 1), sdN s (n.toNat - 1), true) := if_pos h
noncomputable def nucG (x : NuT) : Option (LI × Int × Bool) := if x.2.1.2.length < 2 ^ 62 then some (nucF x.1 x.2.1.1 x.2.1.2 x.2.2.1 x.2.2.2.1 x.2.2.2.2) else none
noncomputable def nucS : FSpec := ⟨[lawD, PD, I64, F32, I64], [L64, I64, .bool], nucG⟩
theorem nucL_len (x : LT) (q : Fl .f32) (T V : LS) (s : Int) (i : Nat) : (nucL x q T V s i).length = i := mapR_len _ _
theorem nucL_succ (x : LT) (q : Fl .f32) (T V : LS) (s : Int) (i : Nat) : nucL x q T V s (i + 1) = nucL x q T V s i ++ [nucV (eF x q T V (i + 1)) (sdN s i)] := mapR_succ _ _
theorem sub_nucL (x : LT) (q : Fl .f32) (T V : LS) (s : Int) (i : Nat) : sub (nucL x q T V s i) 0 i = nucL x q T V s i := by have := sub_all (nucL x q T V s i); rw [nucL_len] at this; exact this
theorem nucV_of {e : Fl .f32} {N : Nat} (s : Int) (h : ftoInt e .i64 = some (N : Int)) : nucV e s = (N : Int) + bif Go.Ab.flt (uF s) (fsub e (fofInt .f32 (N : Int))) then 1 else 0 := by
  unfold nucV
  rw [h]; rfl
theorem maxA_le' {n : Nat} [inst : Decidable (n ≤ maxA)] (h : n ≤ 2 ^ 30) : @decide (n ≤ maxA) inst = true := by
  have : maxA = 2 ^ 36 := rfl
  simp; omega
def L_NucS_1 : LSpec := ⟨[3, 4, 5, 13, 14, 16, 17], ⟨Shs.at 107 [(3, (.flt FloatKind.f32)), (4, (.int IntKind.i64)), (5, (.ptr 2146435584 0 0)), (13, (.slc 2146435585)), (14, (.slc 2146435586)), (16, (.slc 2146435587)), (17, (.int IntKind.i64))], [(2, (.arr false (EK.flt FloatKind.f32))), (3, (.arr false (EK.flt FloatKind.f32))), (2146435584, (.vals true (.cons (.flt FloatKind.f32) (.cons (.flt FloatKind.f32) (.cons (.flt FloatKind.f32) (.cons (.int IntKind.i64) .nil)))))), (2146435585, (.arr true (EK.flt FloatKind.f32))), (2146435586, (.arr true (EK.flt FloatKind.f32))), (2146435587, (.arr true (EK.int IntKind.i64)))]⟩, [⟨.ret, [10, 11, 12], ⟨Shs.at 107 [(10, (.slc 2146435584)), (11, (.int IntKind.i64)), (12, .bool)], [(2, (.arr false (EK.flt FloatKind.f32))), (3, (.arr false (EK.flt FloatKind.f32))), (2146435584, (.arr true (EK.int IntKind.i64)))]⟩⟩, ⟨.ext 0, [4, 16], ⟨Shs.at 107 [(4, (.int IntKind.i64)), (16, (.slc 2146435584))], [(2, (.arr false (EK.flt FloatKind.f32))), (3, (.arr false (EK.flt FloatKind.f32))), (2146435584, (.arr true (EK.int IntKind.i64)))]⟩⟩], fun _ => bigN⟩
def loops_NucS (f k n : Nat) : Option LSpec := bif (Nat.beq f 30 && Nat.beq k 8 && Nat.beq n 1) then some L_NucS_1 else none
abbrev S_NucS_1 : Type := (((Fl .f32) × (Int × (Nat × (Nat × (Nat × (Int × Unit)))))) × ((List (Fl .f32)) × ((List (Fl .f32)) × (((Fl .f32) × ((Fl .f32) × ((Fl .f32) × (Int × Unit)))) × ((List (Fl .f32)) × ((List (Fl .f32)) × ((List Int) × Unit)))))))
abbrev R_NucS_1 : Type := (((Nat × (Int × (Bool × Unit))) × ((List (Fl .f32)) × ((List (Fl .f32)) × ((List Int) × Unit)))) ⊕ ((Int × (Nat × Unit)) × ((List (Fl .f32)) × ((List (Fl .f32)) × ((List Int) × Unit)))))
noncomputable def B_NucS_1 (y : S_NucS_1) : Option (S_NucS_1 ⊕ R_NucS_1) := bif decide (y.1.2.2.2.2.2.1 < (y.1.2.2.1 : Int)) then (Option.bind (meanG (sub y.2.2.2.2.2.1 0 y.1.2.2.2.1, y.1.2.2.2.2.2.1)) fun (r8 : (Fl .f32)) => (Option.bind (spdPG ((y.2.2.2.1.1, y.2.2.2.1.2.1, y.2.2.2.1.2.2.1, y.2.2.2.1.2.2.2.1), r8)) fun (r9 : (Fl .f32)) => (bif inB y.1.2.2.2.2.2.1 y.1.2.2.1 then (bif inB (IntKind.i64.wrap (y.1.2.2.2.2.2.1 - 1)) y.1.2.2.1 then (bif !fle (fmul (fmul y.1.1 r9) (fsub (List.getD y.2.2.2.2.1 (0 + Int.toNat y.1.2.2.2.2.2.1) dN) (List.getD y.2.2.2.2.1 (0 + (IntKind.i64.wrap (y.1.2.2.2.2.2.1 - 1)).toNat) dN))) (Fl.of .f32 1148846080) then (some (Sum.inr (Sum.inl (((0, (0, (false, ()))), (y.2.1, (y.2.2.1, ([], ())))))))) else (Option.bind (draw2G (y.1.2.1, 32768)) fun (r10 : (Int × Int)) => (Option.bind (ftoInt (fmul (fmul y.1.1 r9) (fsub (List.getD y.2.2.2.2.1 (0 + Int.toNat y.1.2.2.2.2.2.1) dN) (List.getD y.2.2.2.2.1 (0 + (IntKind.i64.wrap (y.1.2.2.2.2.2.1 - 1)).toNat) dN))) IntKind.i64) fun (r11 : Int) => (bif flt (fdiv (fofInt .f32 r10.1) (Fl.of .f32 1191182336)) (fsub (fmul (fmul y.1.1 r9) (fsub (List.getD y.2.2.2.2.1 (0 + Int.toNat y.1.2.2.2.2.2.1) dN) (List.getD y.2.2.2.2.1 (0 + (IntKind.i64.wrap (y.1.2.2.2.2.2.1 - 1)).toNat) dN))) (fofInt .f32 r11)) then (bif decide (y.1.2.2.2.2.1 + 1 ≤ maxA) then (some (Sum.inl (((y.1.1, (r10.2, (y.1.2.2.1, (y.1.2.2.2.1, ((sub y.2.2.2.2.2.2.1 0 y.1.2.2.2.2.1 ++ [IntKind.i64.wrap (r11 + 1)]).length, (IntKind.i64.wrap (y.1.2.2.2.2.2.1 + 1), ())))))), (y.2.1, (y.2.2.1, ((y.2.2.2.1.1, (y.2.2.2.1.2.1, (y.2.2.2.1.2.2.1, (y.2.2.2.1.2.2.2.1, ())))), (y.2.2.2.2.1, (y.2.2.2.2.2.1, (sub y.2.2.2.2.2.2.1 0 y.1.2.2.2.2.1 ++ [IntKind.i64.wrap (r11 + 1)], ())))))))))) else (none)) else (bif decide (y.1.2.2.2.2.1 + 1 ≤ maxA) then (some (Sum.inl (((y.1.1, (r10.2, (y.1.2.2.1, (y.1.2.2.2.1, ((sub y.2.2.2.2.2.2.1 0 y.1.2.2.2.2.1 ++ [r11]).length, (IntKind.i64.wrap (y.1.2.2.2.2.2.1 + 1), ())))))), (y.2.1, (y.2.2.1, ((y.2.2.2.1.1, (y.2.2.2.1.2.1, (y.2.2.2.1.2.2.1, (y.2.2.2.1.2.2.2.1, ())))), (y.2.2.2.2.1, (y.2.2.2.2.2.1, (sub y.2.2.2.2.2.2.1 0 y.1.2.2.2.2.1 ++ [r11], ())))))))))) else (none)))))) else (none)) else (none)))) else (some (Sum.inr (Sum.inr (((y.1.2.1, (y.1.2.2.2.2.1, ())), (y.2.1, (y.2.2.1, (y.2.2.2.2.2.2.1, ()))))))))
noncomputable def ss_NucS : List (Nat × FSpec) := [(90, okPS), (59, vpPS), (77, withinS), (91, leastS), (78, seedS), (92, samPS), (93, meansS), (95, meanS), (94, spdPS), (80, draw2S)]
theorem ssOk_NucS : FTolds Try.prog ss_NucS := ⟨s_lawS, s_validS, s_l00In, s_least, s_l05Seed, s_samS, s_means, s_mean, s_speedS, s_l05Draw, trivial⟩
noncomputable def Γ_NucS : Ctx := ctxOf Try.prog tys fs ss_NucS loops_NucS
noncomputable def d_NucS (a b c : Fl .f32) (n : Int) (k l : LS) (m : Int) (q : Fl .f32) (s : Int) : Option (((List Int) × (Int × Bool))) := Option.bind (okPG (a, b, c, n)) fun (r0 : Bool) => (bif !r0 then (some (([], (0, false)))) else (Option.bind (vpPG (sub k 0 (List.length k), sub l 0 (List.length l))) fun (r1 : Bool) => (bif !r1 then (some (([], (0, false)))) else (Option.bind (withinG (m, 2, 128)) fun (r2 : Bool) => (bif !r2 then (some (([], (0, false)))) else (Option.bind (leastG q) fun (r3 : Bool) => (bif !r3 then (some (([], (0, false)))) else (Option.bind (seedG s) fun (r4 : Bool) => (bif !r4 then (some (([], (0, false)))) else (Option.bind (samPG ((sub k 0 (List.length k), sub l 0 (List.length l)), m)) fun (r5 : ((List (Fl .f32)) × ((List (Fl .f32)) × Bool))) => (bif !r5.2.2 then (some (([], (0, false)))) else (Option.bind (meansG (sub r5.2.1 0 (List.length r5.2.1))) fun (r6 : Bool) => (bif !r6 then (some (([], (0, false)))) else (Option.bind (iter B_NucS_1 bigN (((q, (s, (List.length r5.1, (List.length r5.2.1, (0, (1, ())))))), (k, (l, ((a, (b, (c, (n, ())))), (r5.1, (r5.2.1, ([], ()))))))))) fun (r7 : (((Nat × (Int × (Bool × Unit))) × ((List (Fl .f32)) × ((List (Fl .f32)) × ((List Int) × Unit)))) ⊕ ((Int × (Nat × Unit)) × ((List (Fl .f32)) × ((List (Fl .f32)) × ((List Int) × Unit)))))) => (match r7 with | .inl x12 => (some ((sub x12.2.2.2.1 0 x12.1.1, (x12.1.2.1, x12.1.2.2.1)))) | .inr x12 => (some ((sub x12.2.2.2.1 0 x12.1.2.1, (x12.1.1, true)))))))))))))))))))
theorem t_NucS (a b c : Fl .f32) (n : Int) (k l : LS) (m : Int) (q : Fl .f32) (s : Int) : (fnT Γ_NucS 10 30 [lawD, PD, I64, F32, I64] [L64, I64, .bool] ((a, b, c, n), (k, l), m, q, s)).den = d_NucS a b c n k l m q s := by kernel_rfl
theorem p_NucS (a b c : Fl .f32) (n : Int) (k l : LS) (m : Int) (q : Fl .f32) (s : Int) (r : ((List Int) × (Int × Bool))) (h : nucG ((a, b, c, n), (k, l), m, q, s) = some r) : d_NucS a b c n k l m q s = some r := by
  obtain ⟨hb, rfl⟩ := if_some (show (if l.length < 2 ^ 62 then some (nucF (a, b, c, n) k l m q s) else none) = some r from h)
  have k0 : vpPG (k, l) = some (vp k l) := if_pos hb
  unfold d_NucS okPG withinG leastG seedG
  simp only [sub_all, k0, Option.bind_some]
  cases h1 : okL (a, b, c, n) with
  | false => rw [nuc_no fun z => by have := z.1; rw [h1] at this; cases this]; rfl
  | true =>
  cases hv : vp k l with
  | false => rw [nuc_no fun z => by have := z.2.1; rw [hv] at this; cases this]; rfl
  | true =>
  by_cases h2 : 2 ≤ m
  case neg => rw [nuc_no fun z => h2 z.2.2.1.1, decide_eq_false h2]; rfl
  by_cases h3 : m ≤ 128
  case neg => rw [nuc_no fun z => h3 z.2.2.1.2, decide_eq_false h3, decide_eq_true h2]; rfl
  cases hq : least q with
  | false => rw [nuc_no fun z => (by have := z.2.2.2.1; rw [hq] at this; cases this), decide_eq_true h2, decide_eq_true h3]; rfl
  | true =>
  by_cases hs : sdOk s
  case neg =>
    rw [nuc_no fun z => hs z.2.2.2.2.1, decide_eq_true h2, decide_eq_true h3, show (decide (0 ≤ s) && decide (s ≤ 2147483647)) = false from Bool.eq_false_iff.2 fun w => hs (by rw [Bool.and_eq_true, decide_eq_true_iff, decide_eq_true_iff] at w; exact w)]; rfl
  have k1 : samPG ((k, l), m) = some (mapR (smT k m) m.toNat, mapR (smV k l m) m.toNat, smOk k l m) := if_pos ⟨hv, h2, h3⟩
  simp only [decide_eq_true h2, decide_eq_true h3, decide_eq_true hs.1, decide_eq_true hs.2, k1, Option.bind_some, Bool.not_true, Bool.and_self, cond_false, sub_all]
  cases ho : smOk k l m with
  | false => rw [nuc_no fun z => by have := z.2.2.2.2.2.1; rw [ho] at this; cases this]; rfl
  | true =>
  have k2 : meansG (mapR (smV k l m) m.toNat) = some (meansB (mapR (smV k l m) m.toNat)) := if_pos (by show (mapR (smV k l m) m.toNat).length ≤ 128; rw [mapR_len]; omega)
  simp only [k2, Option.bind_some, Bool.not_true, cond_false]
  obtain ⟨j, rfl⟩ : ∃ j : Nat, m = j := ⟨m.toNat, by omega⟩
  have tk : ∀ i, i + 1 < j → least (fsub ((mapR (smT k j) j).getD (i + 1) dN) ((mapR (smT k j) j).getD i dN)) = true := fun i hi => by
    rw [mapR_get _ _ hi, mapR_get _ _ (show i < j by omega)]
    exact sam_ticks hv h2 h3 ho (by rw [Int.toNat_natCast]; exact hi)
  have hiff : nucOk (a, b, c, n) k l j q s ↔ ∀ i, 1 ≤ i → i < j → fin (meanF (mapR (smV k l j) j) i) = true ∧ fle (eF (a, b, c, n) q (mapR (smT k j) j) (mapR (smV k l j) j) i) (Fl.of .f32 1148846080) = true := by
    have e : (j : Int).toNat = j := Int.toNat_natCast j
    constructor
    · intro z; have := z.2.2.2.2.2.2; rw [e] at this; exact this
    · intro z; exact ⟨h1, hv, ⟨h2, h3⟩, hq, hs, ho, by rw [e]; exact z⟩
  have hy : nucOk (a, b, c, n) k l j q s → nucF (a, b, c, n) k l j q s = (nucL (a, b, c, n) q (mapR (smT k j) j) (mapR (smV k l j) j) s (j - 1), sdN s (j - 1), true) := fun z => nuc_yes z
  rw [Int.toNat_natCast]
  have lT := mapR_len (smT k j) j
  have lV := mapR_len (smV k l j) j
  generalize mapR (smT k j) j = T at *
  generalize mapR (smV k l j) j = V at *
  subst lT
  cases hm : meansB V with
  | false =>
    rw [nuc_no fun z => ?_]
    · rfl
    · rw [means_t fun i i0 i1 => ((hiff.1 z) i i0 (by omega)).1] at hm; cases hm
  | true =>
  have hmn := means_of hm
  simp only [Bool.not_true, cond_false]
  have key := iter_find2 (B := B_NucS_1) (fun i => ((q, (sdN s (i - 1), (T.length, (V.length, (i - 1, ((i : Int), ())))))), (k, (l, ((a, (b, (c, (n, ())))), (T, (V, (nucL (a, b, c, n) q T V s (i - 1), ())))))))) 1 T.length (fun i => if fle (eF (a, b, c, n) q T V i) (Fl.of .f32 1148846080) = true then none else some (.inl ((0, (0, (false, ()))), (k, (l, ([], ())))))) (.inr ((sdN s (T.length - 1), (T.length - 1, ())), (k, (l, (nucL (a, b, c, n) q T V s (T.length - 1), ()))))) (by omega) (by omega) (fun i hi0 hi _ => by
    obtain ⟨i, rfl⟩ : ∃ i', i = i' + 1 := ⟨i - 1, by omega⟩
    have k3 : meanG (V, ((i + 1 : Nat) : Int)) = some (meanF V (i + 1)) := if_pos ⟨by show (1 : Int) ≤ ((i + 1 : Nat) : Int); omega, by show ((i + 1 : Nat) : Int) < (V.length : Int); omega, by show V.length ≤ 128; omega⟩
    have k4 : spdPG ((a, b, c, n), meanF V (i + 1)) = some (speedF (a, b, c, n) (meanF V (i + 1))) := rfl
    have k5 : draw2G (sdN s i, 32768) = some (nextF (sdN s i) / 65536 % 32768, sdN s (i + 1)) := if_pos ⟨sdN_ok hs i, by show (1 : Int) ≤ 32768; decide⟩
    have e1 : fmul (fmul q (speedF (a, b, c, n) (meanF V (i + 1)))) (fsub (T.getD (i + 1) dN) (T.getD i dN)) = eF (a, b, c, n) q T V (i + 1) := rfl
    unfold B_NucS_1
    simp only [ltT hi, inc64 hi (show T.length < 2 ^ 62 by omega), cond_true, sub_all, k3, k4, k5, Option.bind_some, dec64 (show 1 ≤ i + 1 by omega) (show i + 1 < 2 ^ 62 by omega), Nat.add_sub_cancel, inB_of hi, inB_of (show i < T.length by omega), Int.toNat_natCast, Nat.zero_add, e1]
    by_cases e : fle (eF (a, b, c, n) q T V (i + 1)) (Fl.of .f32 1148846080) = true
    · have eo := e_ok (x := (a, b, c, n)) (T := T) (V := V) (i := i + 1) h1 hq (hmn (i + 1) (by omega) (by omega)) (tk i (by omega)) e
      obtain ⟨N, y, r1, r2, r3, r4, r5⟩ := rd eo
      have nv := nucV_of (sdN s i) r2
      rw [if_pos e, e]
      simp only [Bool.not_true, cond_false, r2, Option.bind_some]
      rw [show fdiv (fofInt .f32 (nextF (sdN s i) / 65536 % 32768)) (Fl.of .f32 1191182336) = uF (sdN s i) from rfl]
      cases hf : Go.Ab.flt (uF (sdN s i)) (fsub (eF (a, b, c, n) q T V (i + 1)) (fofInt .f32 (N : Int))) with
      | true =>
        rw [hf, cond_true] at nv
        simp only [cond_true, maxA_one (show i < 2 ^ 30 by omega), sub_nucL, wrap64 (n := (N : Int) + 1) (by omega) (by omega)]
        simp only [← nv, ← nucL_succ, nucL_len]
      | false =>
        rw [hf, cond_false, Int.add_zero] at nv
        simp only [cond_false, cond_true, maxA_one (show i < 2 ^ 30 by omega), sub_nucL, ← nv, ← nucL_succ, nucL_len]
    · rw [if_neg e, Bool.eq_false_iff.2 e]; rfl) (fun _ => by
    unfold B_NucS_1
    simp only [ltF, cond_false])
  refine (congrArg (fun z => Option.bind z _) (show iter B_NucS_1 bigN _ = _ from key)).trans ?_
  rcases firstOf_const (fun i => fle (eF (a, b, c, n) q T V i) (Fl.of .f32 1148846080)) (.inl ((0, (0, (false, ()))), (k, (l, ([], ())))) : R_NucS_1) (T.length - 1) 1 with ⟨z, hall⟩ | ⟨z, i, hi0, hi1, hbad⟩
  · rw [z, hy (hiff.2 fun i hi0 hi => ⟨hmn i hi0 (by omega), hall i hi0 (by omega)⟩)]
    simp only [Option.getD_none, Option.bind_some, sub_nucL]
  · rw [z, nuc_no fun w => by have := ((hiff.1 w) i hi0 (by omega)).2; rw [hbad] at this; cases this]
    rfl
theorem s_NucS : FTold Try.prog 30 nucS := walkedF (fs := fs) (ss := ss_NucS) (loop := loops_NucS) tysOk mixed fnsOk ssOk_NucS 10 30 [lawD, PD, I64, F32, I64] [L64, I64, .bool] rfl _ fun ((a, b, c, n), (k, l), m, q, s) r h => (t_NucS a b c n k l m q s).trans (p_NucS a b c n k l m q s r h)
def L_NucI_1 : LSpec := ⟨[3, 5, 9, 13, 14, 16, 17], ⟨Shs.at 102 [(3, (.flt FloatKind.f32)), (5, (.ptr 2146435456 0 0)), (9, (.ptr 2146435457 0 0)), (13, (.slc 2146435458)), (14, (.slc 2146435459)), (16, (.slc 2146435460)), (17, (.int IntKind.i64))], [(2, (.arr false (EK.flt FloatKind.f32))), (3, (.arr false (EK.flt FloatKind.f32))), (2146435456, (.vals true (.cons (.flt FloatKind.f32) (.cons (.flt FloatKind.f32) (.cons (.flt FloatKind.f32) (.cons (.int IntKind.i64) .nil)))))), (2146435457, (.vals true (.cons (.int IntKind.i64) .nil))), (2146435458, (.arr true (EK.flt FloatKind.f32))), (2146435459, (.arr true (EK.flt FloatKind.f32))), (2146435460, (.arr true (EK.int IntKind.i64)))]⟩, [⟨.ret, [10, 11, 12], ⟨Shs.at 102 [(10, (.slc 2146435456)), (11, (.int IntKind.i64)), (12, .bool)], [(2, (.arr false (EK.flt FloatKind.f32))), (3, (.arr false (EK.flt FloatKind.f32))), (2146435456, (.arr true (EK.int IntKind.i64)))]⟩⟩, ⟨.ext 0, [9, 16], ⟨Shs.at 102 [(9, (.ptr 2146435456 0 0)), (16, (.slc 2146435457))], [(2, (.arr false (EK.flt FloatKind.f32))), (3, (.arr false (EK.flt FloatKind.f32))), (2146435456, (.vals true (.cons (.int IntKind.i64) .nil))), (2146435457, (.arr true (EK.int IntKind.i64)))]⟩⟩], fun _ => bigN⟩
def loops_NucI (f k n : Nat) : Option LSpec := bif (Nat.beq f 32 && Nat.beq k 6 && Nat.beq n 1) then some L_NucI_1 else none
abbrev S_NucI_1 : Type := (((Fl .f32) × (Nat × (Nat × (Nat × (Int × Unit))))) × ((List (Fl .f32)) × ((List (Fl .f32)) × (((Fl .f32) × ((Fl .f32) × ((Fl .f32) × (Int × Unit)))) × ((Int × Unit) × ((List (Fl .f32)) × ((List (Fl .f32)) × ((List Int) × Unit))))))))
abbrev R_NucI_1 : Type := (((Nat × (Int × (Bool × Unit))) × ((List (Fl .f32)) × ((List (Fl .f32)) × ((List Int) × Unit)))) ⊕ ((Nat × Unit) × ((List (Fl .f32)) × ((List (Fl .f32)) × ((Int × Unit) × ((List Int) × Unit))))))
noncomputable def B_NucI_1 (y : S_NucI_1) : Option (S_NucI_1 ⊕ R_NucI_1) := bif decide (y.1.2.2.2.2.1 < (y.1.2.1 : Int)) then (Option.bind (mean2G (sub y.2.2.2.2.2.1 0 y.1.2.1, sub y.2.2.2.2.2.2.1 0 y.1.2.2.1, y.1.2.2.2.2.1)) fun (r5 : ((Fl .f32) × (Fl .f32))) => (Option.bind (SpeedG ((y.2.2.2.1.1, y.2.2.2.1.2.1, y.2.2.2.1.2.2.1, y.2.2.2.1.2.2.2.1), r5.1)) fun (r6 : ((Fl .f32) × Bool)) => (bif !r6.2 then (some (Sum.inr (Sum.inl (((0, (0, (false, ()))), (y.2.1, (y.2.2.1, ([], ())))))))) else (bif !fle (fmul (fmul y.1.1 r6.1) r5.2) (Fl.of .f32 1148846080) then (some (Sum.inr (Sum.inl (((0, (0, (false, ()))), (y.2.1, (y.2.2.1, ([], ())))))))) else (Option.bind (flr32G (fmul (fmul y.1.1 r6.1) r5.2)) fun (r7 : (Fl .f32)) => (Option.bind (draw1G y.2.2.2.2.1.1) fun (r8 : (Int × Int)) => (bif 32768 != 0 then (Option.bind (ftoInt r7 IntKind.i64) fun (r9 : Int) => (bif flt (fdiv (fofInt .f32 (Int.tmod r8.2 32768)) (Fl.of .f32 1191182336)) (fsub (fmul (fmul y.1.1 r6.1) r5.2) r7) then (bif decide (y.1.2.2.2.1 + 1 ≤ maxA) then (some (Sum.inl (((y.1.1, (y.1.2.1, (y.1.2.2.1, ((sub y.2.2.2.2.2.2.2.1 0 y.1.2.2.2.1 ++ [IntKind.i64.wrap (r9 + 1)]).length, (IntKind.i64.wrap (y.1.2.2.2.2.1 + 1), ()))))), (y.2.1, (y.2.2.1, ((y.2.2.2.1.1, (y.2.2.2.1.2.1, (y.2.2.2.1.2.2.1, (y.2.2.2.1.2.2.2.1, ())))), ((r8.1, ()), (y.2.2.2.2.2.1, (y.2.2.2.2.2.2.1, (sub y.2.2.2.2.2.2.2.1 0 y.1.2.2.2.1 ++ [IntKind.i64.wrap (r9 + 1)], ()))))))))))) else (none)) else (bif decide (y.1.2.2.2.1 + 1 ≤ maxA) then (some (Sum.inl (((y.1.1, (y.1.2.1, (y.1.2.2.1, ((sub y.2.2.2.2.2.2.2.1 0 y.1.2.2.2.1 ++ [r9]).length, (IntKind.i64.wrap (y.1.2.2.2.2.1 + 1), ()))))), (y.2.1, (y.2.2.1, ((y.2.2.2.1.1, (y.2.2.2.1.2.1, (y.2.2.2.1.2.2.1, (y.2.2.2.1.2.2.2.1, ())))), ((r8.1, ()), (y.2.2.2.2.2.1, (y.2.2.2.2.2.2.1, (sub y.2.2.2.2.2.2.2.1 0 y.1.2.2.2.1 ++ [r9], ()))))))))))) else (none)))) else (none)))))))) else (some (Sum.inr (Sum.inr (((y.1.2.2.2.1, ()), (y.2.1, (y.2.2.1, ((y.2.2.2.2.1.1, ()), (y.2.2.2.2.2.2.2.1, ())))))))))
noncomputable def ss_NucI : List (Nat × FSpec) := [(96, samQS), (97, okLS), (98, leastS), (85, seedS), (99, mean2S), (100, SpeedS), (101, flr32S), (148, draw1S)]
theorem ssOk_NucI : FTolds Try.prog ss_NucI := ⟨s_SamI, s_lawI, s_aMass, s_isSeed, s_mean2, s_SpeedI, s_floor32, s_draw, trivial⟩
noncomputable def Γ_NucI : Ctx := ctxOf Try.prog tys fs ss_NucI loops_NucI
noncomputable def d_NucI (a b c : Fl .f32) (n : Int) (k l : LS) (m : Int) (q : Fl .f32) (s : Int) : Option (((List Int) × (Int × Bool))) := Option.bind (samQG ((sub k 0 (List.length k), sub l 0 (List.length l)), m)) fun (r0 : ((List (Fl .f32)) × ((List (Fl .f32)) × Bool))) => (bif !r0.2.2 then (some (([], (0, false)))) else (Option.bind (okLG (a, b, c, n)) fun (r1 : Bool) => (bif !r1 then (some (([], (0, false)))) else (Option.bind (leastG q) fun (r2 : Bool) => (bif !r2 then (some (([], (0, false)))) else (Option.bind (seedG s) fun (r3 : Bool) => (bif !r3 then (some (([], (0, false)))) else (Option.bind (iter B_NucI_1 bigN (((q, (List.length r0.1, (List.length r0.2.1, (0, (1, ()))))), (k, (l, ((a, (b, (c, (n, ())))), ((s, ()), (r0.1, (r0.2.1, ([], ())))))))))) fun (r4 : (((Nat × (Int × (Bool × Unit))) × ((List (Fl .f32)) × ((List (Fl .f32)) × ((List Int) × Unit)))) ⊕ ((Nat × Unit) × ((List (Fl .f32)) × ((List (Fl .f32)) × ((Int × Unit) × ((List Int) × Unit))))))) => (match r4 with | .inl x10 => (some ((sub x10.2.2.2.1 0 x10.1.1, (x10.1.2.1, x10.1.2.2.1)))) | .inr x10 => (some ((sub x10.2.2.2.2.1 0 x10.1.1, (x10.2.2.2.1.1, true)))))))))))))
theorem t_NucI (a b c : Fl .f32) (n : Int) (k l : LS) (m : Int) (q : Fl .f32) (s : Int) : (fnT Γ_NucI 10 32 [lawD, PD, I64, F32, I64] [L64, I64, .bool] ((a, b, c, n), (k, l), m, q, s)).den = d_NucI a b c n k l m q s := by kernel_rfl
theorem p_NucI (a b c : Fl .f32) (n : Int) (k l : LS) (m : Int) (q : Fl .f32) (s : Int) (r : ((List Int) × (Int × Bool))) (h : nucG ((a, b, c, n), (k, l), m, q, s) = some r) : d_NucI a b c n k l m q s = some r := by
  obtain ⟨hb, rfl⟩ := if_some (show (if l.length < 2 ^ 62 then some (nucF (a, b, c, n) k l m q s) else none) = some r from h)
  have k0 : samQG ((k, l), m) = some (samF k l m) := if_pos hb
  unfold d_NucI okLG leastG seedG
  simp only [sub_all, k0, Option.bind_some]
  by_cases hsam : vp k l = true ∧ (2 ≤ m ∧ m ≤ 128) ∧ smOk k l m = true
  case neg => rw [sam_no hsam, nuc_no fun z => hsam ⟨z.2.1, z.2.2.1, z.2.2.2.2.2.1⟩]; rfl
  obtain ⟨hv, ⟨h2, h3⟩, ho⟩ := hsam
  rw [sam_yes ⟨hv, ⟨h2, h3⟩, ho⟩]
  simp only [Bool.not_true, cond_false, mapR_len]
  cases h1 : okL (a, b, c, n) with
  | false => rw [nuc_no fun z => by have := z.1; rw [h1] at this; cases this]; rfl
  | true =>
  cases hq : least q with
  | false => rw [nuc_no fun z => by have := z.2.2.2.1; rw [hq] at this; cases this]; rfl
  | true =>
  by_cases hs : sdOk s
  case neg =>
    rw [nuc_no fun z => hs z.2.2.2.2.1, show (decide (0 ≤ s) && decide (s ≤ 2147483647)) = false from Bool.eq_false_iff.2 fun w => hs (by rw [Bool.and_eq_true, decide_eq_true_iff, decide_eq_true_iff] at w; exact w)]; rfl
  simp only [decide_eq_true hs.1, decide_eq_true hs.2, Bool.not_true, Bool.and_self, cond_false]
  obtain ⟨j, rfl⟩ : ∃ j : Nat, m = j := ⟨m.toNat, by omega⟩
  have tk : ∀ i, i + 1 < j → least (fsub ((mapR (smT k j) j).getD (i + 1) dN) ((mapR (smT k j) j).getD i dN)) = true := fun i hi => by
    rw [mapR_get _ _ hi, mapR_get _ _ (show i < j by omega)]
    exact sam_ticks hv h2 h3 ho (by rw [Int.toNat_natCast]; exact hi)
  have hiff : nucOk (a, b, c, n) k l j q s ↔ ∀ i, 1 ≤ i → i < j → fin (meanF (mapR (smV k l j) j) i) = true ∧ fle (eF (a, b, c, n) q (mapR (smT k j) j) (mapR (smV k l j) j) i) (Fl.of .f32 1148846080) = true := by
    have e : (j : Int).toNat = j := Int.toNat_natCast j
    constructor
    · intro z; have := z.2.2.2.2.2.2; rw [e] at this; exact this
    · intro z; exact ⟨h1, hv, ⟨h2, h3⟩, hq, hs, ho, by rw [e]; exact z⟩
  have hy : nucOk (a, b, c, n) k l j q s → nucF (a, b, c, n) k l j q s = (nucL (a, b, c, n) q (mapR (smT k j) j) (mapR (smV k l j) j) s (j - 1), sdN s (j - 1), true) := fun z => nuc_yes z
  rw [Int.toNat_natCast]
  have lT := mapR_len (smT k j) j
  have lV := mapR_len (smV k l j) j
  generalize mapR (smT k j) j = T at *
  generalize mapR (smV k l j) j = V at *
  subst lT
  have key := iter_find2 (B := B_NucI_1) (fun i => ((q, (T.length, (T.length, (i - 1, ((i : Int), ()))))), (k, (l, ((a, (b, (c, (n, ())))), ((sdN s (i - 1), ()), (T, (V, (nucL (a, b, c, n) q T V s (i - 1), ()))))))))) 1 T.length (fun i => if (fin (meanF V i) && fle (eF (a, b, c, n) q T V i) (Fl.of .f32 1148846080)) = true then none else some (.inl ((0, (0, (false, ()))), (k, (l, ([], ())))))) (.inr ((T.length - 1, ()), (k, (l, ((sdN s (T.length - 1), ()), (nucL (a, b, c, n) q T V s (T.length - 1), ())))))) (by omega) (by omega) (fun i hi0 hi _ => by
    obtain ⟨i, rfl⟩ : ∃ i', i = i' + 1 := ⟨i - 1, by omega⟩
    have k3 : mean2G (T, V, ((i + 1 : Nat) : Int)) = some (meanF V (i + 1), fsub (T.getD (i + 1) dN) (T.getD i dN)) := if_pos ⟨by show (1 : Int) ≤ ((i + 1 : Nat) : Int); omega, by show ((i + 1 : Nat) : Int) < (T.length : Int); omega, lV, by show T.length ≤ 128; omega⟩
    have k5 : draw1G (sdN s i) = some (sdN s (i + 1), nextF (sdN s i) / 65536) := if_pos (sdN_ok hs i)
    unfold B_NucI_1
    simp only [ltT hi, inc64 hi (show T.length < 2 ^ 62 by omega), cond_true, sub_all, show sub V 0 T.length = V by rw [← lV]; exact sub_all V, k3, k5, Option.bind_some, Nat.add_sub_cancel]
    by_cases f : fin (meanF V (i + 1)) = true
    case neg =>
      have k4 : SpeedG ((a, b, c, n), meanF V (i + 1)) = some (Fl.of .f32 0, false) := congrArg some (if_neg fun z => f z.2)
      rw [show (fin (meanF V (i + 1)) && fle (eF (a, b, c, n) q T V (i + 1)) (Fl.of .f32 1148846080)) = false by rw [Bool.eq_false_iff.2 f]; rfl, if_neg Bool.false_ne_true]
      simp only [k4, Option.bind_some, Bool.not_false, cond_true]
    have k4 : SpeedG ((a, b, c, n), meanF V (i + 1)) = some (speedF (a, b, c, n) (meanF V (i + 1)), true) := congrArg some ((if_pos ⟨h1, f⟩).trans (if_pos (speed_fin h1 f)))
    have e1 : fmul (fmul q (speedF (a, b, c, n) (meanF V (i + 1)))) (fsub (T.getD (i + 1) dN) (T.getD i dN)) = eF (a, b, c, n) q T V (i + 1) := rfl
    simp only [k4, Option.bind_some, Bool.not_true, cond_false, e1, f, Bool.true_and]
    by_cases e : fle (eF (a, b, c, n) q T V (i + 1)) (Fl.of .f32 1148846080) = true
    · have eo := e_ok (x := (a, b, c, n)) (T := T) (V := V) (i := i + 1) h1 hq f (tk i (by omega)) e
      obtain ⟨N, y, r1, r2, r3, r4, r5⟩ := rd eo
      have nv := nucV_of (sdN s i) r2
      have sk := next_ok (sdN s i)
      unfold sdOk at sk
      rw [if_pos e, e]
      simp only [Bool.not_true, cond_false, r3, r4, Option.bind_some, r5, show ((32768 : Int) != 0) = true from rfl, cond_true, Int.tmod_eq_emod_of_nonneg (show 0 ≤ nextF (sdN s i) / 65536 by omega)]
      rw [show fdiv (fofInt .f32 (nextF (sdN s i) / 65536 % 32768)) (Fl.of .f32 1191182336) = uF (sdN s i) from rfl]
      cases hf : Go.Ab.flt (uF (sdN s i)) (fsub (eF (a, b, c, n) q T V (i + 1)) (fofInt .f32 (N : Int))) with
      | true =>
        rw [hf, cond_true] at nv
        simp only [cond_true, maxA_one (show i < 2 ^ 30 by omega), sub_nucL, wrap64 (n := (N : Int) + 1) (by omega) (by omega)]
        simp only [← nv, ← nucL_succ, nucL_len]
        rfl
      | false =>
        rw [hf, cond_false, Int.add_zero] at nv
        simp only [cond_false, cond_true, maxA_one (show i < 2 ^ 30 by omega), sub_nucL, ← nv, ← nucL_succ, nucL_len]
        rfl
    · rw [if_neg e, Bool.eq_false_iff.2 e]; rfl) (fun _ => by
    unfold B_NucI_1
    simp only [ltF, cond_false])
  refine (congrArg (fun z => Option.bind z _) (show iter B_NucI_1 bigN _ = _ from key)).trans ?_
  rcases firstOf_const (fun i => fin (meanF V i) && fle (eF (a, b, c, n) q T V i) (Fl.of .f32 1148846080)) (.inl ((0, (0, (false, ()))), (k, (l, ([], ())))) : R_NucI_1) (T.length - 1) 1 with ⟨z, hall⟩ | ⟨z, i, hi0, hi1, hbad⟩
  · rw [z, hy (hiff.2 fun i hi0 hi => by have := hall i hi0 (by omega); rw [Bool.and_eq_true] at this; exact this)]
    simp only [Option.getD_none, Option.bind_some, sub_nucL]
  · rw [z, nuc_no fun w => by have := (hiff.1 w) i hi0 (by omega); rw [← Bool.and_eq_true, hbad] at this; cases this]
    rfl
theorem s_NucI : FTold Try.prog 32 nucS := walkedF (fs := fs) (ss := ss_NucI) (loop := loops_NucI) tysOk mixed fnsOk ssOk_NucI 10 32 [lawD, PD, I64, F32, I64] [L64, I64, .bool] rfl _ fun ((a, b, c, n), (k, l), m, q, s) r h => (t_NucI a b c n k l m q s).trans (p_NucI a b c n k l m q s r h)
theorem nuc_len (x : LT) (a b : LS) (n : Int) (q : Fl .f32) (s : Int) : (nucF x a b n q s).1.length ≤ 128 := by
  by_cases h : nucOk x a b n q s
  · rw [nuc_yes h, nucL_len]
    have := h.2.2.1.2
    omega
  · rw [nuc_no h]; exact Nat.zero_le _
end Go.Proofs.Ytjggcekliaalgaa
